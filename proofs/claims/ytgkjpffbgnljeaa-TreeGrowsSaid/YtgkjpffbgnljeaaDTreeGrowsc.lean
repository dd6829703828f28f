/- Texts of this claim laid together: QG2, OpsGTreeGrows, TreePa, TreePb, TreePc, TreeBi. -/
import Derived.Test.YtgkjpffbgnljeaaDTreeGrowsb
-- written by this session's program mprint.py: functions of the Go program, and their contracts
namespace Go.Proofs.Ytgkjpffbgnljeaa.QG
open Go.RowKit Go.Proofs.Ytgkjpffbgnljeaa.Au Go.Proofs.Ytgkjpffbgnljeaa.QT Go.Proofs.Ytgkjpffbgnljeaa.Man Go.Proofs.Ytgkjpffbgnljeaa.QA Go.Proofs.YtgkjpffbgnljeaaW.PrintWords Go.Proofs.YtgkjpffbgnljeaaW.PrintLast Go.Proofs.YtgkjpffbgnljeaaW.PrintMore
attribute [local go_sem] max2_int min2_int max_two min_two max_three min_three max_four min_four
set_option linter.unusedVariables false
set_option linter.unusedSimpArgs false
mutual
noncomputable def tollbarlaw17_TreeGrows.l0 : Nat → List (S50) → List Int → List (S50) → Int → List (S64) → Int → List Int → Option (Bool)
 | 0, _, _, _, _, _, _, _ => none
 | k + 1, x0, x1, x6, x7, xqa, xqb, xqc => if x7 < (x0.length : Int) then (if 0 ≤ x7 then ((tollbarref17_ItemMay.f ((rd_T50 x0 x7).f0.f0) ((rd_T50 x0 x7).f0.f1) ((rd_T50 x0 x7).f1)).bind fun t111 => (if t111 = true then ((tollbarref17_There.f k x6 ((rd_T50 x0 x7).f0.f0) ((rd_T50 x0 x7).f0.f1) ((rd_T50 x0 x7).f1)).bind fun t113 => (if t113 = true then (tollbarlaw17_TreeGrows.j1 k x0 x1 x6 x7 1701 xqa xqb xqc) else (if (x6.length : Int) = 32 then (tollbarlaw17_TreeGrows.j1 k x0 x1 x6 x7 1703 xqa xqb xqc) else (tollbarlaw17_TreeGrows.j1 k x0 x1 x6 x7 0 xqa xqb xqc)))) else (tollbarlaw17_TreeGrows.j1 k x0 x1 x6 x7 1700 xqa xqb xqc))) else (none)) else ((tollbarlaw17_awake.f).bind fun t109 => (some t109))
noncomputable def tollbarlaw17_TreeGrows.j1 : Nat → List (S50) → List Int → List (S50) → Int → Int → List (S64) → Int → List Int → Option (Bool)
 | 0, _, _, _, _, _, _, _, _ => none
 | k + 1, x0, x1, x6, x7, x8, xqa, xqb, xqc => if 0 ≤ x7 then (if x7 < (x0.length : Int) then ((tree_Insert.f xqa xqb xqc ((rd_T50 x0 x7).f0.f0) ((rd_T50 x0 x7).f0.f1) ((rd_T50 x0 x7).f1)).bind fun bt115 => ((tollbarlaw0_Num.f bt115.2.2.2).bind fun t124 => (if t124 = x8 then (if x8 = 0 then ((tollbarref17_With.f k x6 ((rd_T50 x0 x7).f0.f0) ((rd_T50 x0 x7).f0.f1) ((rd_T50 x0 x7).f1)).bind fun t126 => (tollbarlaw17_TreeGrows.j2 k x0 x1 t126 x7 bt115.1 bt115.2.1 bt115.2.2.1)) else (tollbarlaw17_TreeGrows.j2 k x0 x1 x6 x7 xqa xqb xqc)) else (some false)))) else (none)) else (none)
noncomputable def tollbarlaw17_TreeGrows.j2 : Nat → List (S50) → List Int → List (S50) → Int → List (S64) → Int → List Int → Option (Bool)
 | 0, _, _, _, _, _, _, _ => none
 | k + 1, x0, x1, x6, x7, xqa, xqb, xqc => if x7 < (x1.length : Int) then (tollbarlaw17_TreeGrows.j3 k x0 x1 x6 x7 (decide ((x6.length : Int) > 0)) xqa xqb xqc) else (tollbarlaw17_TreeGrows.j3 k x0 x1 x6 x7 false xqa xqb xqc)
noncomputable def tollbarlaw17_TreeGrows.j3 : Nat → List (S50) → List Int → List (S50) → Int → Bool → List (S64) → Int → List Int → Option (Bool)
 | 0, _, _, _, _, _, _, _, _ => none
 | k + 1, x0, x1, x6, x7, x71, xqa, xqb, xqc => if x71 = true then (if 0 ≤ x7 then (if x7 < (x1.length : Int) then (if (x6.length : Int) = 0 then (none) else (if 0 ≤ (Int.tmod (Go.bits .and .i64 (rd x1 x7) 31) (x6.length : Int)) then (if (Int.tmod (Go.bits .and .i64 (rd x1 x7) 31) (x6.length : Int)) < (x6.length : Int) then ((tree_Delete.f xqa xqb xqc ((rd_T50 x6 (Int.tmod (Go.bits .and .i64 (rd x1 x7) 31) (x6.length : Int))).f0.f0) ((rd_T50 x6 (Int.tmod (Go.bits .and .i64 (rd x1 x7) 31) (x6.length : Int))).f0.f1) ((rd_T50 x6 (Int.tmod (Go.bits .and .i64 (rd x1 x7) 31) (x6.length : Int))).f1)).bind fun bt131 => ((tollbarlaw0_Num.f bt131.2.2.2).bind fun t140 => (if t140 = 0 then ((tollbarref17_Without.f k x6 ((rd_T50 x6 (Int.tmod (Go.bits .and .i64 (rd x1 x7) 31) (x6.length : Int))).f0.f0) ((rd_T50 x6 (Int.tmod (Go.bits .and .i64 (rd x1 x7) 31) (x6.length : Int))).f0.f1) ((rd_T50 x6 (Int.tmod (Go.bits .and .i64 (rd x1 x7) 31) (x6.length : Int))).f1)).bind fun t142 => (tollbarlaw17_TreeGrows.j4 k x0 x1 t142 x7 bt131.1 bt131.2.1 bt131.2.2.1)) else (some false)))) else (none)) else (none))) else (none)) else (none)) else (tollbarlaw17_TreeGrows.j4 k x0 x1 x6 x7 xqa xqb xqc)
noncomputable def tollbarlaw17_TreeGrows.j4 : Nat → List (S50) → List Int → List (S50) → Int → List (S64) → Int → List Int → Option (Bool)
 | 0, _, _, _, _, _, _, _ => none
 | k + 1, x0, x1, x6, x7, xqa, xqb, xqc => (tollbarref17_All.f k xqa xqb xqc).bind fun bt145 => (if bt145.2 = true then ((tollbarlaw0_SameItems.f k bt145.1 x6).bind fun t149 => (if t149 = true then (tollbarlaw17_TreeGrows.l0 k x0 x1 x6 (wrap64 (x7 + 1)) xqa xqb xqc) else (some false))) else (some false))
end
noncomputable def tollbarlaw17_TreeGrows.f (k : Nat) (l0 : List (S50)) (l1 : List Int) : Option (Bool) := (tree_New.f).bind fun bt101 => (tollbarlaw17_TreeGrows.l0 k l0 l1 ([] : List (S50)) 0 bt101.1 bt101.2.1 bt101.2.2)
noncomputable def tollbarlaw17_TreeGrows.T13 : Bool × List (List Nat × List Nat) := (true, [([], []), ([], []), ([], []), ([1, 2], [1, 2]), ([3], [3]), ([0, 4], [0, 4]), ([5], [5]), ([6], [6]), ([6], [6]), ([], []), ([9, 7, 5, 0, 1, 2, 3, 4, 5, 6, 7, 9], [7, 9]), ([8, 10, 0, 1, 2, 3, 4, 5, 6, 7, 8, 9, 10], [8])])
noncomputable def tollbarlaw17_TreeGrows.B13 : List Nat := [0, 0, 0, 6, 14, 31, 63, 127, 127, 0, 767, 2047]
theorem tollbarlaw17_TreeGrows.tab13 : rtab .any (opsOf Try.f6 13) = tollbarlaw17_TreeGrows.T13 := by kernel_rfl
theorem tollbarlaw17_TreeGrows.bits13 : waitsOk tollbarlaw17_TreeGrows.T13.2 tollbarlaw17_TreeGrows.B13 = true := by kernel_rfl
noncomputable def tollbarlaw17_TreeGrows.T21 : Bool × List (List Nat × List Nat) := (true, [([], []), ([], []), ([], []), ([1, 2], [1, 2]), ([3], [3]), ([0, 4], [0, 4]), ([5], [5]), ([6], [6]), ([6], [6]), ([], []), ([9, 7, 5, 0, 1, 2, 3, 4, 5, 6, 7, 9], [7, 9]), ([8, 10, 0, 1, 2, 3, 4, 5, 6, 7, 8, 9, 10], [8])])
noncomputable def tollbarlaw17_TreeGrows.B21 : List Nat := [0, 0, 0, 6, 14, 31, 63, 127, 127, 0, 767, 2047]
theorem tollbarlaw17_TreeGrows.tab21 : rtab .any (opsOf Try.f6 21) = tollbarlaw17_TreeGrows.T21 := by kernel_rfl
theorem tollbarlaw17_TreeGrows.bits21 : waitsOk tollbarlaw17_TreeGrows.T21.2 tollbarlaw17_TreeGrows.B21 = true := by kernel_rfl
set_option maxHeartbeats 8000000 in
set_option maxRecDepth 100000 in
theorem tollbarlaw17_TreeGrows.calls (k : Nat) (A0 : Option Addr) (c0 : Nat) (l0 : List (S50)) (A1 : Option Addr) (c1 : Nat) (l1 : List Int) (r : Bool) (w : World) (hr0 : Kd.C k50 w A0 l0.length l0) (hc0 : l0.length ≤ c0) (hr1 : Kd.C (Kd.int .i64) w A1 l1.length l1) (hc1 : l1.length ≤ c1) (h : tollbarlaw17_TreeGrows.f k l0 l1 = some r) :
  Calls Try.prog 6 #[.slice A0 l0.length c0, .slice A1 l1.length c1] w fun e w' => e = .returned (.bool r) ∧ Below w.heap.size w w' := by
 have hu25 := Try.underlying25
 have hu50 := Try.underlying50
 have HR0 := zK hr0
 have HC0 := zK hc0
 clear hr0 hc0
 have HR1 := zK hr1
 have HC1 := zK hc1
 clear hr1 hc1
 have HB := zK (Below.refl w.heap.size w)
 have H : ((tree_New.f).bind fun bt101 => (tollbarlaw17_TreeGrows.l0 k l0 l1 ([] : List (S50)) 0 bt101.1 bt101.2.1 bt101.2.2)) = some r := h
 clear h
 replace H := yH.mp H
 obtain ⟨⟨t101, t104, t105⟩, A30, H⟩ := H
 replace H : (tollbarlaw17_TreeGrows.l0 k l0 l1 ([] : List (S50)) 0 t101 t104 t105) = some r := H
 have A3 := zK A30
 clear A30
 have H' := zK H
 clear H
 go_enter Try.func6, Try.ntmps6
 go_wp2_with (first | ((with_reducible refine gate_callee (f := 33) rfl ?_); refine goesL_ (some 16) rfl rfl Try.func33 (by kernel_rfl) rfl #[] rfl zt ?_; (with_reducible refine (tree_New.calls  t101 t104 t105 _ A3.out).mono ?_); rintro e w4 ⟨v102, v106, rfl, ho0, ho1, hb⟩; refine ⟨_, rfl, ?_⟩; have n0_ := zK (zV ho0 (yG (zl HB.out))); have n1_ := zK (zV ho1 (yG (zl HB.out))); have n2_ := zK (yF (zl HB.out) hb); clear HB; have HO103 := n0_; have HO107 := n1_; have HB := n2_; clear n0_ n1_ n2_; (try clear hb); (try clear hb2); (try clear hk); (try clear hi); (try clear ho0); (try clear ho1)) | ((with_reducible refine gate_dst (N := 5) rfl ?_); (try (refine gate_guard (by rfl) ?_; dsimp only)); refine box_event ?hg (N := 5) ?hd (cs := #[.slice none 0 0, .int .i64 0, .slice none 0 0]) (t := 25) ?hr ?_; (case hd => rfl); (case hg => rfl); (case hr => first | (go_simp; done) | (go_simp; rfl)); intro gb108 hg w5 hbox hb; have n0_ := zK (zO (zr HO103.out) hb); have n1_ := zK (zO (zr HO107.out) hb); have n2_ := zK (yF (zl HB.out) hb); have n3_ := zK (hbox); have n4_ := zK ((by rw [hg]; exact (yG (zl HB.out)) : w.heap.size ≤ gb108)); have n5_ := zK ((by rw [hg]; exact (yG (zl HB.out)) : w.heap.size ≤ gb108)); clear HO103; clear HO107; clear HB; have HO103 := n0_; have HO107 := n1_; have HB := n2_; have BK108 := n3_; have GW108 := n4_; have GE108 := n5_; clear n0_ n1_ n2_ n3_ n4_ n5_; clear hb hbox hg; obtain ⟨Ao6, co6, eo6⟩ := yE HO103.out; subst eo6; have hcz7_0 : w5.cell? ⟨gb108, 0, none⟩ = some (.slice none 0 0) := (zQ BK108.out 0).trans rfl; have hcz7_1 : w5.cell? ⟨gb108, 1, none⟩ = some (.int .i64 0) := (zQ BK108.out 1).trans rfl; have hcz7_2 : w5.cell? ⟨gb108, 2, none⟩ = some (.slice none 0 0) := (zQ BK108.out 2).trans rfl; have hfz7_0 := zR BK108.out 0; have hfz7_1 := zR BK108.out 1; have hfz7_2 := zR BK108.out 2; obtain ⟨Ao8, co8, eo8⟩ := yE HO107.out; subst eo8))
 go_loopg [6, 7] k (fun kq v6 v7 w' => ∃ (x6_1 : List (S50)) (x7_1 : Int) (xqa_1 : List (S64)) (xqb_1 : Int) (xqc_1 : List Int) (uqa : Value) (uqc : Value), v7 = .int .i64 x7_1 ∧ Aside0 (tollbarlaw17_TreeGrows.l0 kq l0 l1 x6_1 x7_1 xqa_1 xqb_1 xqc_1 = some r) ∧ Aside0 (kq ≤ k) ∧ Aside0 (Kd.R k50 50 w' w.heap.size (fun _ => True) v6 x6_1) ∧ Aside0 (Kd.R k64 64 w' w.heap.size (fun _ => True) uqa xqa_1) ∧ Aside0 (Kd.R (Kd.int .i64) 3 w' w.heap.size (fun _ => True) uqc xqc_1) ∧ Aside0 (w'.heap[gb108]? = some (.cells #[uqa, .int .i64 xqb_1, uqc] 25 (0, 0))) ∧ Aside0 (Below w.heap.size w w'))
 case atStart => exact ⟨(([] : List (S50))), (0), (t101), (t104), (t105), (.slice Ao6 t101.length co6), (.slice Ao8 t105.length co8), zz, H', ⟨Nat.le_refl _⟩, ⟨by first | exact Kd.R_nil _ _ _ _ _ | exact Kd.N_nil _ _ _ _ _ | exact Kd.V_nil _ _ _ _ _ | exact Kd.Q_nil _ _ _ _ _ | exact Kd.S_nil _ _ _ _ _⟩, ⟨by (with_reducible repeat (first | apply zA | apply zB | apply zC)); exact Kd.R_mono (Kd.R_far (p := ⟨gb108, 2, none⟩) (Kd.R_far (p := ⟨gb108, 1, none⟩) (Kd.R_far (p := ⟨gb108, 0, none⟩) (Kd.R_types HO103.out BK108.out (by decide)) (fun _ hk => hk.2) (.slice Ao6 t101.length co6)) (fun _ hk => hk.2) (.int .i64 t104)) (fun _ hk => hk.2) (.slice Ao8 t105.length co8)) (fun _ _ => by trivial)⟩, ⟨by (with_reducible repeat (first | apply zA | apply zB | apply zC)); exact Kd.R_mono (Kd.R_far (p := ⟨gb108, 2, none⟩) (Kd.R_far (p := ⟨gb108, 1, none⟩) (Kd.R_far (p := ⟨gb108, 0, none⟩) (Kd.R_types HO107.out BK108.out (by decide)) (fun _ hk => hk.2) (.slice Ao6 t101.length co6)) (fun _ hk => hk.2) (.int .i64 t104)) (fun _ hk => hk.2) (.slice Ao8 t105.length co8)) (fun _ _ => by trivial)⟩, ⟨by (with_reducible repeat (first | refine zD ?_ _ | refine zE ?_ | refine zF ?_ _)); refine blk_put (cs := #[.slice Ao6 t101.length co6, .int .i64 t104, .slice none 0 0]) ?_ 2 _ rfl; (with_reducible repeat (first | refine zD ?_ _ | refine zE ?_ | refine zF ?_ _)); refine blk_put (cs := #[.slice Ao6 t101.length co6, .int .i64 0, .slice none 0 0]) ?_ 1 _ rfl; (with_reducible repeat (first | refine zD ?_ _ | refine zE ?_ | refine zF ?_ _)); refine blk_put (cs := #[.slice none 0 0, .int .i64 0, .slice none 0 0]) ?_ 0 _ rfl; (with_reducible repeat (first | refine zD ?_ _ | refine zE ?_ | refine zF ?_ _)); exact BK108.out⟩, ⟨by repeat (first | (with_reducible first | exact HB.out | apply zG | apply zH | apply zI | refine zL ?_ GE108.out) | exact HB.out)⟩⟩
 case round =>
  clear H'
  try clear c1
  try clear p2
  try clear c3
  try clear c6
  try clear hcz7_0
  try clear hcz7_1
  try clear hcz7_2
  try clear hfz7_0
  try clear hfz7_1
  try clear hfz7_2
  obtain ⟨x6_1, x7_1, xqa_1, xqb_1, xqc_1, uqa, uqc, rfl, HA, HK1, HO_6, HO_qa, HO_qc, BK108, HB⟩ := hrel
  cases gk with
  | zero => exact absurd HA.out (by simp [tollbarlaw17_TreeGrows.l0])
  | succ k1 =>
   have H := HA.out
   clear HA
   simp only [tollbarlaw17_TreeGrows.l0] at H
   by_cases c9 : x7_1 < (l0.length : Int)
   ·rw [if_pos c9] at H
    have c9b0 : decide (x7_1 < (l0.length : Int)) = true := decide_eq_true c9
    clear c9
    have HC10 := zK H
    clear H
    go_upto_block 2 with (fail)
    go_cut [8] (fun v8 wc => ∃ (kq : Nat) (x8_9 : Int), v8 = .int .i64 x8_9 ∧ Aside0 (tollbarlaw17_TreeGrows.j1 kq l0 l1 x6_1 x7_1 x8_9 xqa_1 xqb_1 xqc_1 = some r) ∧ Aside0 (kq ≤ k1) ∧ Aside0 (Kd.R k50 50 wc w.heap.size (fun _ => True) u6 x6_1) ∧ Aside0 (Kd.R k64 64 wc w.heap.size (fun _ => True) uqa xqa_1) ∧ Aside0 (Kd.R (Kd.int .i64) 3 wc w.heap.size (fun _ => True) uqc xqc_1) ∧ Aside0 (wc.heap[gb108]? = some (.cells #[uqa, .int .i64 xqb_1, uqc] 25 (0, 0))) ∧ Aside0 (Below w.heap.size w wc))
    case first =>
     have H := HC10.out
     clear HC10
     by_cases c11 : 0 ≤ x7_1
     ·rw [if_pos c11] at H
      have c11b0 : decide (0 ≤ x7_1) = true := decide_eq_true c11
      clear c11
      (first | rw [c11b0] | (simp only [i64_w, i32_w]; rw [c11b0]) | skip)
      replace H := yH.mp H
      obtain ⟨t111, A120, H⟩ := H
      replace H : (if t111 = true then ((tollbarref17_There.f k1 x6_1 ((rd_T50 l0 x7_1).f0.f0) ((rd_T50 l0 x7_1).f0.f1) ((rd_T50 l0 x7_1).f1)).bind fun t113 => (if t113 = true then (tollbarlaw17_TreeGrows.j1 k1 l0 l1 x6_1 x7_1 1701 xqa_1 xqb_1 xqc_1) else (if (x6_1.length : Int) = 32 then (tollbarlaw17_TreeGrows.j1 k1 l0 l1 x6_1 x7_1 1703 xqa_1 xqb_1 xqc_1) else (tollbarlaw17_TreeGrows.j1 k1 l0 l1 x6_1 x7_1 0 xqa_1 xqb_1 xqc_1)))) else (tollbarlaw17_TreeGrows.j1 k1 l0 l1 x6_1 x7_1 1700 xqa_1 xqb_1 xqc_1)) = some r := H
      have A12 := zK A120
      clear A120
      by_cases c13 : t111 = true
      ·subst c13
       have H1 : ((tollbarref17_There.f k1 x6_1 ((rd_T50 l0 x7_1).f0.f0) ((rd_T50 l0 x7_1).f0.f1) ((rd_T50 l0 x7_1).f1)).bind fun t113 => (if t113 = true then (tollbarlaw17_TreeGrows.j1 k1 l0 l1 x6_1 x7_1 1701 xqa_1 xqb_1 xqc_1) else (if (x6_1.length : Int) = 32 then (tollbarlaw17_TreeGrows.j1 k1 l0 l1 x6_1 x7_1 1703 xqa_1 xqb_1 xqc_1) else (tollbarlaw17_TreeGrows.j1 k1 l0 l1 x6_1 x7_1 0 xqa_1 xqb_1 xqc_1)))) = some r := by rw [if_pos rfl] at H; exact H
       clear H
       have H := H1
       clear H1
       replace H := yH.mp H
       obtain ⟨t113, A140, H⟩ := H
       replace H : (if t113 = true then (tollbarlaw17_TreeGrows.j1 k1 l0 l1 x6_1 x7_1 1701 xqa_1 xqb_1 xqc_1) else (if (x6_1.length : Int) = 32 then (tollbarlaw17_TreeGrows.j1 k1 l0 l1 x6_1 x7_1 1703 xqa_1 xqb_1 xqc_1) else (tollbarlaw17_TreeGrows.j1 k1 l0 l1 x6_1 x7_1 0 xqa_1 xqb_1 xqc_1))) = some r := H
       have A14 := zK A140
       clear A140
       by_cases c15 : t113 = true
       ·subst c15
        have H1 : (tollbarlaw17_TreeGrows.j1 k1 l0 l1 x6_1 x7_1 1701 xqa_1 xqb_1 xqc_1) = some r := by rw [if_pos rfl] at H; exact H
        clear H
        have H := H1
        clear H1
        have H' := zK H
        clear H
        have p110 : 0 ≤ (x7_1 : Int) := of_decide_eq_true (by first | (with_reducible assumption) | assumption)
        have q110 : x7_1 < (l0.length : Int) := of_decide_eq_true (by first | (with_reducible assumption) | assumption)
        obtain ⟨ad110, e110, hx110_0, hx110_1, hx110_2⟩ := at_T50 HR0.out x7_1 p110 q110
        cases e110
        replace hx110_0 := (HB.out.cell (zJ w _ hx110_0)).trans hx110_0
        replace hx110_1 := (HB.out.cell (zJ w _ hx110_1)).trans hx110_1
        replace hx110_2 := (HB.out.cell (zJ w _ hx110_2)).trans hx110_2
        replace p110 := eq_true p110
        replace q110 := eq_true q110
        go_wp2_with (first | ((with_reducible refine gate_callee (f := 34) rfl ?_); refine goesL_ (some 28) rfl rfl Try.func34 (by kernel_rfl) rfl #[.agg #[.int .i64 ((rd_T50 l0 x7_1).f0.f0), .int .i64 ((rd_T50 l0 x7_1).f0.f1), .int .i64 ((rd_T50 l0 x7_1).f1)]] rfl zt ?_; (with_reducible refine (tollbarref17_ItemMay.calls ((rd_T50 l0 x7_1).f0.f0) ((rd_T50 l0 x7_1).f0.f1) ((rd_T50 l0 x7_1).f1) true _ A12.out).mono ?_); rintro e w16 ⟨rfl, hb⟩; refine ⟨_, rfl, ?_⟩; have n0_ := zK (zO (zr HO_6.out) hb); have n1_ := zK (zO (zr HO_qa.out) hb); have n2_ := zK (zO (zr HO_qc.out) hb); have n3_ := zK (zP (g := gb108) (o := .cells #[uqa, .int .i64 xqb_1, uqc] 25 (0, 0)) (zb BK108.out) hb); have n4_ := zK (yF (zl HB.out) hb); clear HO_6; clear HO_qa; clear HO_qc; clear BK108; clear HB; have HO_6 := n0_; have HO_qa := n1_; have HO_qc := n2_; have BK108 := n3_; have HB := n4_; clear n0_ n1_ n2_ n3_ n4_; (try clear hb); (try clear hb2); (try clear hk); (try clear hi); have p112 : 0 ≤ (x7_1 : Int) := of_decide_eq_true (by first | (with_reducible assumption) | assumption); have q112 : x7_1 < (l0.length : Int) := of_decide_eq_true (by first | (with_reducible assumption) | assumption); obtain ⟨ad112, e112, hx112_0, hx112_1, hx112_2⟩ := at_T50 HR0.out x7_1 p112 q112; obtain rfl : ad110 = ad112 := (by injection e112); replace hx112_0 := (HB.out.cell (zJ w _ hx112_0)).trans hx112_0; replace hx112_1 := (HB.out.cell (zJ w _ hx112_1)).trans hx112_1; replace hx112_2 := (HB.out.cell (zJ w _ hx112_2)).trans hx112_2; replace p112 := eq_true p112; replace q112 := eq_true q112; obtain ⟨Ao17, co17, eo17⟩ := yE HO_6.out; subst eo17) | ((with_reducible refine gate_callee (f := 31) rfl ?_); refine goesL_ (some 36) rfl rfl Try.func31 (by kernel_rfl) rfl #[.slice Ao17 x6_1.length co17, .agg #[.int .i64 ((rd_T50 l0 x7_1).f0.f0), .int .i64 ((rd_T50 l0 x7_1).f0.f1), .int .i64 ((rd_T50 l0 x7_1).f1)]] rfl zt ?_; (with_reducible refine (tollbarref17_There.calls k1 _ _ x6_1 ((rd_T50 l0 x7_1).f0.f0) ((rd_T50 l0 x7_1).f0.f1) ((rd_T50 l0 x7_1).f1) true _ ?side1 ?side2 A14.out).mono ?_); (case side1 => exact zc (zX HO_6.out).2.2); (case side2 => exact (zX HO_6.out).2.1); rintro e w18 ⟨rfl, hb⟩; refine ⟨_, rfl, ?_⟩; have n0_ := zK (zO (zr HO_6.out) hb); have n1_ := zK (zO (zr HO_qa.out) hb); have n2_ := zK (zO (zr HO_qc.out) hb); have n3_ := zK (zP (g := gb108) (o := .cells #[uqa, .int .i64 xqb_1, uqc] 25 (0, 0)) (zb BK108.out) hb); have n4_ := zK (yF (zl HB.out) hb); clear HO_6; clear HO_qa; clear HO_qc; clear BK108; clear HB; have HO_6 := n0_; have HO_qa := n1_; have HO_qc := n2_; have BK108 := n3_; have HB := n4_; clear n0_ n1_ n2_ n3_ n4_; (try clear hb); (try clear hb2); (try clear hk); (try clear hi)))
        go_meet
        case rel => exact ⟨_, (1701), zz, H', ⟨by have := HK1.out; first | omega | exact Nat.le_refl _⟩, ⟨by (with_reducible repeat (first | apply zA | apply zB | apply zC)); exact HO_6.out⟩, ⟨by (with_reducible repeat (first | apply zA | apply zB | apply zC)); exact HO_qa.out⟩, ⟨by (with_reducible repeat (first | apply zA | apply zB | apply zC)); exact HO_qc.out⟩, ⟨by (with_reducible repeat (first | refine zD ?_ _ | refine zE ?_ | refine zF ?_ _)); exact BK108.out⟩, ⟨by repeat (first | (with_reducible first | exact HB.out | apply zG | apply zH | apply zI | refine zL ?_ GE108.out) | exact HB.out)⟩⟩
       ·replace c15 := Bool.eq_false_iff.mpr c15
        subst c15
        have H1 : (if (x6_1.length : Int) = 32 then (tollbarlaw17_TreeGrows.j1 k1 l0 l1 x6_1 x7_1 1703 xqa_1 xqb_1 xqc_1) else (tollbarlaw17_TreeGrows.j1 k1 l0 l1 x6_1 x7_1 0 xqa_1 xqb_1 xqc_1)) = some r := by rw [if_neg (show ¬ (false = true) by decide)] at H; exact H
        clear H
        have H := H1
        clear H1
        by_cases c19 : (x6_1.length : Int) = 32
        ·rw [if_pos c19] at H
         have c19b0 : ((x6_1.length : Int) == 32) = true := yI.mpr c19
         have c19b1 : ((x6_1.length : Int) != 32) = false := yJ.mpr c19
         clear c19
         have H' := zK H
         clear H
         have p110 : 0 ≤ (x7_1 : Int) := of_decide_eq_true (by first | (with_reducible assumption) | assumption)
         have q110 : x7_1 < (l0.length : Int) := of_decide_eq_true (by first | (with_reducible assumption) | assumption)
         obtain ⟨ad110, e110, hx110_0, hx110_1, hx110_2⟩ := at_T50 HR0.out x7_1 p110 q110
         cases e110
         replace hx110_0 := (HB.out.cell (zJ w _ hx110_0)).trans hx110_0
         replace hx110_1 := (HB.out.cell (zJ w _ hx110_1)).trans hx110_1
         replace hx110_2 := (HB.out.cell (zJ w _ hx110_2)).trans hx110_2
         replace p110 := eq_true p110
         replace q110 := eq_true q110
         go_wp2_with (first | ((with_reducible refine gate_callee (f := 34) rfl ?_); refine goesL_ (some 28) rfl rfl Try.func34 (by kernel_rfl) rfl #[.agg #[.int .i64 ((rd_T50 l0 x7_1).f0.f0), .int .i64 ((rd_T50 l0 x7_1).f0.f1), .int .i64 ((rd_T50 l0 x7_1).f1)]] rfl zt ?_; (with_reducible refine (tollbarref17_ItemMay.calls ((rd_T50 l0 x7_1).f0.f0) ((rd_T50 l0 x7_1).f0.f1) ((rd_T50 l0 x7_1).f1) true _ A12.out).mono ?_); rintro e w20 ⟨rfl, hb⟩; refine ⟨_, rfl, ?_⟩; have n0_ := zK (zO (zr HO_6.out) hb); have n1_ := zK (zO (zr HO_qa.out) hb); have n2_ := zK (zO (zr HO_qc.out) hb); have n3_ := zK (zP (g := gb108) (o := .cells #[uqa, .int .i64 xqb_1, uqc] 25 (0, 0)) (zb BK108.out) hb); have n4_ := zK (yF (zl HB.out) hb); clear HO_6; clear HO_qa; clear HO_qc; clear BK108; clear HB; have HO_6 := n0_; have HO_qa := n1_; have HO_qc := n2_; have BK108 := n3_; have HB := n4_; clear n0_ n1_ n2_ n3_ n4_; (try clear hb); (try clear hb2); (try clear hk); (try clear hi); have p112 : 0 ≤ (x7_1 : Int) := of_decide_eq_true (by first | (with_reducible assumption) | assumption); have q112 : x7_1 < (l0.length : Int) := of_decide_eq_true (by first | (with_reducible assumption) | assumption); obtain ⟨ad112, e112, hx112_0, hx112_1, hx112_2⟩ := at_T50 HR0.out x7_1 p112 q112; obtain rfl : ad110 = ad112 := (by injection e112); replace hx112_0 := (HB.out.cell (zJ w _ hx112_0)).trans hx112_0; replace hx112_1 := (HB.out.cell (zJ w _ hx112_1)).trans hx112_1; replace hx112_2 := (HB.out.cell (zJ w _ hx112_2)).trans hx112_2; replace p112 := eq_true p112; replace q112 := eq_true q112; obtain ⟨Ao21, co21, eo21⟩ := yE HO_6.out; subst eo21) | ((with_reducible refine gate_callee (f := 31) rfl ?_); refine goesL_ (some 36) rfl rfl Try.func31 (by kernel_rfl) rfl #[.slice Ao21 x6_1.length co21, .agg #[.int .i64 ((rd_T50 l0 x7_1).f0.f0), .int .i64 ((rd_T50 l0 x7_1).f0.f1), .int .i64 ((rd_T50 l0 x7_1).f1)]] rfl zt ?_; (with_reducible refine (tollbarref17_There.calls k1 _ _ x6_1 ((rd_T50 l0 x7_1).f0.f0) ((rd_T50 l0 x7_1).f0.f1) ((rd_T50 l0 x7_1).f1) false _ ?side1 ?side2 A14.out).mono ?_); (case side1 => exact zc (zX HO_6.out).2.2); (case side2 => exact (zX HO_6.out).2.1); rintro e w22 ⟨rfl, hb⟩; refine ⟨_, rfl, ?_⟩; have n0_ := zK (zO (zr HO_6.out) hb); have n1_ := zK (zO (zr HO_qa.out) hb); have n2_ := zK (zO (zr HO_qc.out) hb); have n3_ := zK (zP (g := gb108) (o := .cells #[uqa, .int .i64 xqb_1, uqc] 25 (0, 0)) (zb BK108.out) hb); have n4_ := zK (yF (zl HB.out) hb); clear HO_6; clear HO_qa; clear HO_qc; clear BK108; clear HB; have HO_6 := n0_; have HO_qa := n1_; have HO_qc := n2_; have BK108 := n3_; have HB := n4_; clear n0_ n1_ n2_ n3_ n4_; (try clear hb); (try clear hb2); (try clear hk); (try clear hi)))
         go_meet
         case rel => exact ⟨_, (1703), zz, H', ⟨by have := HK1.out; first | omega | exact Nat.le_refl _⟩, ⟨by (with_reducible repeat (first | apply zA | apply zB | apply zC)); exact HO_6.out⟩, ⟨by (with_reducible repeat (first | apply zA | apply zB | apply zC)); exact HO_qa.out⟩, ⟨by (with_reducible repeat (first | apply zA | apply zB | apply zC)); exact HO_qc.out⟩, ⟨by (with_reducible repeat (first | refine zD ?_ _ | refine zE ?_ | refine zF ?_ _)); exact BK108.out⟩, ⟨by repeat (first | (with_reducible first | exact HB.out | apply zG | apply zH | apply zI | refine zL ?_ GE108.out) | exact HB.out)⟩⟩
        ·rw [if_neg c19] at H
         have c19b0 : ((x6_1.length : Int) == 32) = false := yK.mpr c19
         have c19b1 : ((x6_1.length : Int) != 32) = true := yL.mpr c19
         have H' := zK H
         clear H
         have p110 : 0 ≤ (x7_1 : Int) := of_decide_eq_true (by first | (with_reducible assumption) | assumption)
         have q110 : x7_1 < (l0.length : Int) := of_decide_eq_true (by first | (with_reducible assumption) | assumption)
         obtain ⟨ad110, e110, hx110_0, hx110_1, hx110_2⟩ := at_T50 HR0.out x7_1 p110 q110
         cases e110
         replace hx110_0 := (HB.out.cell (zJ w _ hx110_0)).trans hx110_0
         replace hx110_1 := (HB.out.cell (zJ w _ hx110_1)).trans hx110_1
         replace hx110_2 := (HB.out.cell (zJ w _ hx110_2)).trans hx110_2
         replace p110 := eq_true p110
         replace q110 := eq_true q110
         go_wp2_with (first | ((with_reducible refine gate_callee (f := 34) rfl ?_); refine goesL_ (some 28) rfl rfl Try.func34 (by kernel_rfl) rfl #[.agg #[.int .i64 ((rd_T50 l0 x7_1).f0.f0), .int .i64 ((rd_T50 l0 x7_1).f0.f1), .int .i64 ((rd_T50 l0 x7_1).f1)]] rfl zt ?_; (with_reducible refine (tollbarref17_ItemMay.calls ((rd_T50 l0 x7_1).f0.f0) ((rd_T50 l0 x7_1).f0.f1) ((rd_T50 l0 x7_1).f1) true _ A12.out).mono ?_); rintro e w23 ⟨rfl, hb⟩; refine ⟨_, rfl, ?_⟩; have n0_ := zK (zO (zr HO_6.out) hb); have n1_ := zK (zO (zr HO_qa.out) hb); have n2_ := zK (zO (zr HO_qc.out) hb); have n3_ := zK (zP (g := gb108) (o := .cells #[uqa, .int .i64 xqb_1, uqc] 25 (0, 0)) (zb BK108.out) hb); have n4_ := zK (yF (zl HB.out) hb); clear HO_6; clear HO_qa; clear HO_qc; clear BK108; clear HB; have HO_6 := n0_; have HO_qa := n1_; have HO_qc := n2_; have BK108 := n3_; have HB := n4_; clear n0_ n1_ n2_ n3_ n4_; (try clear hb); (try clear hb2); (try clear hk); (try clear hi); have p112 : 0 ≤ (x7_1 : Int) := of_decide_eq_true (by first | (with_reducible assumption) | assumption); have q112 : x7_1 < (l0.length : Int) := of_decide_eq_true (by first | (with_reducible assumption) | assumption); obtain ⟨ad112, e112, hx112_0, hx112_1, hx112_2⟩ := at_T50 HR0.out x7_1 p112 q112; obtain rfl : ad110 = ad112 := (by injection e112); replace hx112_0 := (HB.out.cell (zJ w _ hx112_0)).trans hx112_0; replace hx112_1 := (HB.out.cell (zJ w _ hx112_1)).trans hx112_1; replace hx112_2 := (HB.out.cell (zJ w _ hx112_2)).trans hx112_2; replace p112 := eq_true p112; replace q112 := eq_true q112; obtain ⟨Ao24, co24, eo24⟩ := yE HO_6.out; subst eo24) | ((with_reducible refine gate_callee (f := 31) rfl ?_); refine goesL_ (some 36) rfl rfl Try.func31 (by kernel_rfl) rfl #[.slice Ao24 x6_1.length co24, .agg #[.int .i64 ((rd_T50 l0 x7_1).f0.f0), .int .i64 ((rd_T50 l0 x7_1).f0.f1), .int .i64 ((rd_T50 l0 x7_1).f1)]] rfl zt ?_; (with_reducible refine (tollbarref17_There.calls k1 _ _ x6_1 ((rd_T50 l0 x7_1).f0.f0) ((rd_T50 l0 x7_1).f0.f1) ((rd_T50 l0 x7_1).f1) false _ ?side1 ?side2 A14.out).mono ?_); (case side1 => exact zc (zX HO_6.out).2.2); (case side2 => exact (zX HO_6.out).2.1); rintro e w25 ⟨rfl, hb⟩; refine ⟨_, rfl, ?_⟩; have n0_ := zK (zO (zr HO_6.out) hb); have n1_ := zK (zO (zr HO_qa.out) hb); have n2_ := zK (zO (zr HO_qc.out) hb); have n3_ := zK (zP (g := gb108) (o := .cells #[uqa, .int .i64 xqb_1, uqc] 25 (0, 0)) (zb BK108.out) hb); have n4_ := zK (yF (zl HB.out) hb); clear HO_6; clear HO_qa; clear HO_qc; clear BK108; clear HB; have HO_6 := n0_; have HO_qa := n1_; have HO_qc := n2_; have BK108 := n3_; have HB := n4_; clear n0_ n1_ n2_ n3_ n4_; (try clear hb); (try clear hb2); (try clear hk); (try clear hi)))
         go_meet
         case rel => exact ⟨_, (0), zz, H', ⟨by have := HK1.out; first | omega | exact Nat.le_refl _⟩, ⟨by (with_reducible repeat (first | apply zA | apply zB | apply zC)); exact HO_6.out⟩, ⟨by (with_reducible repeat (first | apply zA | apply zB | apply zC)); exact HO_qa.out⟩, ⟨by (with_reducible repeat (first | apply zA | apply zB | apply zC)); exact HO_qc.out⟩, ⟨by (with_reducible repeat (first | refine zD ?_ _ | refine zE ?_ | refine zF ?_ _)); exact BK108.out⟩, ⟨by repeat (first | (with_reducible first | exact HB.out | apply zG | apply zH | apply zI | refine zL ?_ GE108.out) | exact HB.out)⟩⟩
      ·replace c13 := Bool.eq_false_iff.mpr c13
       subst c13
       have H1 : (tollbarlaw17_TreeGrows.j1 k1 l0 l1 x6_1 x7_1 1700 xqa_1 xqb_1 xqc_1) = some r := by rw [if_neg (show ¬ (false = true) by decide)] at H; exact H
       clear H
       have H := H1
       clear H1
       have H' := zK H
       clear H
       have p110 : 0 ≤ (x7_1 : Int) := of_decide_eq_true (by first | (with_reducible assumption) | assumption)
       have q110 : x7_1 < (l0.length : Int) := of_decide_eq_true (by first | (with_reducible assumption) | assumption)
       obtain ⟨ad110, e110, hx110_0, hx110_1, hx110_2⟩ := at_T50 HR0.out x7_1 p110 q110
       cases e110
       replace hx110_0 := (HB.out.cell (zJ w _ hx110_0)).trans hx110_0
       replace hx110_1 := (HB.out.cell (zJ w _ hx110_1)).trans hx110_1
       replace hx110_2 := (HB.out.cell (zJ w _ hx110_2)).trans hx110_2
       replace p110 := eq_true p110
       replace q110 := eq_true q110
       go_wp2_with (first | ((with_reducible refine gate_callee (f := 34) rfl ?_); refine goesL_ (some 28) rfl rfl Try.func34 (by kernel_rfl) rfl #[.agg #[.int .i64 ((rd_T50 l0 x7_1).f0.f0), .int .i64 ((rd_T50 l0 x7_1).f0.f1), .int .i64 ((rd_T50 l0 x7_1).f1)]] rfl zt ?_; (with_reducible refine (tollbarref17_ItemMay.calls ((rd_T50 l0 x7_1).f0.f0) ((rd_T50 l0 x7_1).f0.f1) ((rd_T50 l0 x7_1).f1) false _ A12.out).mono ?_); rintro e w26 ⟨rfl, hb⟩; refine ⟨_, rfl, ?_⟩; have n0_ := zK (zO (zr HO_6.out) hb); have n1_ := zK (zO (zr HO_qa.out) hb); have n2_ := zK (zO (zr HO_qc.out) hb); have n3_ := zK (zP (g := gb108) (o := .cells #[uqa, .int .i64 xqb_1, uqc] 25 (0, 0)) (zb BK108.out) hb); have n4_ := zK (yF (zl HB.out) hb); clear HO_6; clear HO_qa; clear HO_qc; clear BK108; clear HB; have HO_6 := n0_; have HO_qa := n1_; have HO_qc := n2_; have BK108 := n3_; have HB := n4_; clear n0_ n1_ n2_ n3_ n4_; (try clear hb); (try clear hb2); (try clear hk); (try clear hi)))
       go_meet
       case rel => exact ⟨_, (1700), zz, H', ⟨by have := HK1.out; first | omega | exact Nat.le_refl _⟩, ⟨by (with_reducible repeat (first | apply zA | apply zB | apply zC)); exact HO_6.out⟩, ⟨by (with_reducible repeat (first | apply zA | apply zB | apply zC)); exact HO_qa.out⟩, ⟨by (with_reducible repeat (first | apply zA | apply zB | apply zC)); exact HO_qc.out⟩, ⟨by (with_reducible repeat (first | refine zD ?_ _ | refine zE ?_ | refine zF ?_ _)); exact BK108.out⟩, ⟨by repeat (first | (with_reducible first | exact HB.out | apply zG | apply zH | apply zI | refine zL ?_ GE108.out) | exact HB.out)⟩⟩
     ·rw [if_neg c11] at H
      exact absurd H (by simp)
    case rest =>
     clear HC10
     try clear c1
     try clear p1
     try clear q1
     try clear hx1
     try clear p2
     try clear c3
     try clear c6
     try clear c9
     try clear c9b0
     try clear c11
     try clear c11b0
     try clear p11
     try clear q11
     try clear hx11
     try clear c13
     try clear c15
     try clear c19
     try clear c19b0
     try clear c19b1
     try clear hcz7_0
     try clear hcz7_1
     try clear hcz7_2
     try clear hfz7_0
     try clear hfz7_1
     try clear hfz7_2
     try clear hx110_0
     try clear hx110_1
     try clear hx110_2
     try clear hx112_0
     try clear hx112_1
     try clear hx112_2
     try clear p110
     try clear p112
     try clear p2
     try clear q110
     try clear q112
     obtain ⟨kq, x8_9, rfl, HA, HJ9, HO_6, HO_qa, HO_qc, BK108, HB⟩ := hcut
     cases kq with
     | zero => exact absurd HA.out (by simp [tollbarlaw17_TreeGrows.j1])
     | succ kj9 =>
      have H := HA.out
      clear HA
      simp only [tollbarlaw17_TreeGrows.j1] at H
      by_cases c27 : 0 ≤ x7_1
      ·rw [if_pos c27] at H
       have c27b0 : decide (0 ≤ x7_1) = true := decide_eq_true c27
       clear c27
       by_cases c28 : x7_1 < (l0.length : Int)
       ·rw [if_pos c28] at H
        have c28b0 : decide (x7_1 < (l0.length : Int)) = true := decide_eq_true c28
        clear c28
        replace H := yH.mp H
        obtain ⟨⟨t115, t118, t119, t122⟩, A290, H⟩ := H
        replace H : ((tollbarlaw0_Num.f t122).bind fun t124 => (if t124 = x8_9 then (if x8_9 = 0 then ((tollbarref17_With.f kj9 x6_1 ((rd_T50 l0 x7_1).f0.f0) ((rd_T50 l0 x7_1).f0.f1) ((rd_T50 l0 x7_1).f1)).bind fun t126 => (tollbarlaw17_TreeGrows.j2 kj9 l0 l1 t126 x7_1 t115 t118 t119)) else (tollbarlaw17_TreeGrows.j2 kj9 l0 l1 x6_1 x7_1 xqa_1 xqb_1 xqc_1)) else (some false))) = some r := H
        have A29 := zK A290
        clear A290
        replace H := yH.mp H
        obtain ⟨t124, A300, H⟩ := H
        replace H : (if t124 = x8_9 then (if x8_9 = 0 then ((tollbarref17_With.f kj9 x6_1 ((rd_T50 l0 x7_1).f0.f0) ((rd_T50 l0 x7_1).f0.f1) ((rd_T50 l0 x7_1).f1)).bind fun t126 => (tollbarlaw17_TreeGrows.j2 kj9 l0 l1 t126 x7_1 t115 t118 t119)) else (tollbarlaw17_TreeGrows.j2 kj9 l0 l1 x6_1 x7_1 xqa_1 xqb_1 xqc_1)) else (some false)) = some r := H
        have A30 := zK A300
        clear A300
        by_cases c31 : t124 = x8_9
        ·rw [if_pos c31] at H
         have c31b0 : (t124 == x8_9) = true := yI.mpr c31
         have c31b1 : (t124 != x8_9) = false := yJ.mpr c31
         clear c31
         have HC32 := zK H
         clear H
         obtain ⟨Ao33, co33, eo33⟩ := yE HO_qa.out
         subst eo33
         obtain ⟨Ao34, co34, eo34⟩ := yE HO_qc.out
         subst eo34
         try go_wp2
         have n0_ := zK (zC HO_6.out)
         have n1_ := zK (zC HO_qa.out)
         have n2_ := zK (zC HO_qc.out)
         have n3_ := zK (zE BK108.out)
         have n4_ := zK (zI HB.out)
         clear HO_6
         clear HO_qa
         clear HO_qc
         clear BK108
         clear HB
         have HO_6 := n0_
         have HO_qa := n1_
         have HO_qc := n2_
         have BK108 := n3_
         have HB := n4_
         clear n0_ n1_ n2_ n3_ n4_
         have p114 : 0 ≤ (x7_1 : Int) := of_decide_eq_true (by first | (with_reducible assumption) | assumption)
         have q114 : x7_1 < (l0.length : Int) := of_decide_eq_true (by first | (with_reducible assumption) | assumption)
         obtain ⟨ad114, e114, hx114_0, hx114_1, hx114_2⟩ := at_T50 HR0.out x7_1 p114 q114
         have hw114_2 := hx114_2
         have hw114_1 := hx114_1
         have hw114_0 := hx114_0
         cases e114
         replace hx114_0 := (HB.out.cell (zJ w _ hx114_0)).trans hx114_0
         replace hx114_1 := (HB.out.cell (zJ w _ hx114_1)).trans hx114_1
         replace hx114_2 := (HB.out.cell (zJ w _ hx114_2)).trans hx114_2
         replace p114 := eq_true p114
         replace q114 := eq_true q114
         refine start_ (n := 12) (S := fun w' => w'.cell? ⟨gb108, 0, none⟩ = some (.slice Ao33 xqa_1.length co33) ∧ w'.cell? ⟨gb108, 1, none⟩ = some (.int .i64 xqb_1) ∧ w'.cell? ⟨gb108, 2, none⟩ = some (.slice Ao34 xqc_1.length co34) ∧ w'.cell? (ad114.add ((x7_1).toNat * 3)) = some (.int .i64 ((rd_T50 l0 x7_1).f0.f0)) ∧ w'.cell? ⟨(ad114.add ((x7_1).toNat * 3)).block, (ad114.add ((x7_1).toNat * 3)).off + 1, none⟩ = some (.int .i64 ((rd_T50 l0 x7_1).f0.f1)) ∧ w'.cell? ⟨(ad114.add ((x7_1).toNat * 3)).block, (ad114.add ((x7_1).toNat * 3)).off + 2, none⟩ = some (.int .i64 ((rd_T50 l0 x7_1).f1))) (ds := []) #[false, false, false, false, false, false, false, false, false, false, false, false] (by kernel_rfl) rfl rfl ⟨(zQ BK108.out 0).trans rfl, (zQ BK108.out 1).trans rfl, (zQ BK108.out 2).trans rfl, ((HB.out.cell (zJ w _ hw114_0)).trans hw114_0), ((HB.out.cell (zJ w _ hw114_1)).trans hw114_1), ((HB.out.cell (zJ w _ hw114_2)).trans hw114_2)⟩ (fun hHeld => ?_); refine with_tabW tollbarlaw17_TreeGrows.tab13 tollbarlaw17_TreeGrows.bits13 (fun HT_ HW_ => ?_)
         generalize wc.drew = w35 at HO_6 HO_qa HO_qc BK108 HB hx114_0 hx114_1 hx114_2 hHeld ⊢
         refine pure_ (i := 1) (N := some 43) (v := ?_) (a' := ?_) #[false, true, false, false, false, false, false, false, false, false, false, false] rfl rfl (any_of HT_.out (by kernel_rfl)) (fun _ _ _ h => h) (Or.inl ⟨by rfl, ?_⟩) ?_ ?_
         rotate_left
         ·intro w'
          go_simp
          with_reducible rfl
         rotate_left
         ·simp only [Act.put, zY, zZ, yA, i64_w, i32_w]
          rfl
         refine pure_ (i := 2) (N := some 44) (v := ?_) (a' := ?_) #[false, true, true, false, false, false, false, false, false, false, false, false] rfl rfl (any_of HT_.out (by kernel_rfl)) (fun _ _ _ h => h) (Or.inl ⟨by rfl, ?_⟩) ?_ ?_
         rotate_left
         ·intro w'
          go_simp
          with_reducible rfl
         rotate_left
         ·simp only [Act.put, zY, zZ, yA, i64_w, i32_w]
          rfl
         refine pure_ (i := 3) (N := some 45) (v := ?_) (a' := ?_) #[false, true, true, true, false, false, false, false, false, false, false, false] rfl rfl (any_of HT_.out (by kernel_rfl)) (fun _ _ _ h => h) (Or.inl ⟨by rfl, ?_⟩) ?_ ?_
         rotate_left
         ·intro w'
          go_simp
          with_reducible rfl
         rotate_left
         ·simp only [Act.put, zY, zZ, yA, i64_w, i32_w]
          rfl
         refine take_ (i := 0) (N := some 42) (v := ?_) (a' := ?_) #[true, true, true, true, false, false, false, false, false, false, false, false] rfl rfl (take_ofW HT_.out HW_.out (by kernel_rfl)) (fun _ _ _ h => h) (Or.inl ⟨by rfl, ?_⟩) hHeld ?_ ?_
         rotate_left
         ·rintro w' ⟨s0, s1, s2, s3, s4, s5⟩
          go_simp
          with_reducible rfl
         rotate_left
         ·simp only [Act.put, zY, zZ, yA, i64_w, i32_w]
          rfl
         refine take_ (i := 4) (N := some 46) (v := ?_) (a' := ?_) #[true, true, true, true, true, false, false, false, false, false, false, false] rfl rfl (take_ofW HT_.out HW_.out (by kernel_rfl)) (fun _ _ _ h => h) (Or.inl ⟨by rfl, ?_⟩) hHeld ?_ ?_
         rotate_left
         ·rintro w' ⟨s0, s1, s2, s3, s4, s5⟩
          go_simp
          with_reducible rfl
         rotate_left
         ·simp only [Act.put, zY, zZ, yA, i64_w, i32_w]
          rfl
         refine join_ (σ := Value × Value × Nat) 2 #[true, true, true, true, true, true, true, true, true, true, false, false] (fun s_ => [(47, .tuple #[.agg #[s_.1, .int .i64 t118, s_.2.1], .int .i64 t122]), (9, .pointer (some ⟨s_.2.2, 0, none⟩)), (41, .tuple #[.agg #[s_.1, .int .i64 t118, s_.2.1], .int .i64 t122]), (48, .agg #[s_.1, .int .i64 t118, s_.2.1]), (49, .int .i64 t122)]) (fun s_ w' => (w'.cell? ⟨gb108, 0, none⟩ = some (.slice Ao33 xqa_1.length co33) ∧ w'.cell? ⟨gb108, 1, none⟩ = some (.int .i64 xqb_1) ∧ w'.cell? ⟨gb108, 2, none⟩ = some (.slice Ao34 xqc_1.length co34) ∧ w'.cell? (ad114.add ((x7_1).toNat * 3)) = some (.int .i64 ((rd_T50 l0 x7_1).f0.f0)) ∧ w'.cell? ⟨(ad114.add ((x7_1).toNat * 3)).block, (ad114.add ((x7_1).toNat * 3)).off + 1, none⟩ = some (.int .i64 ((rd_T50 l0 x7_1).f0.f1)) ∧ w'.cell? ⟨(ad114.add ((x7_1).toNat * 3)).block, (ad114.add ((x7_1).toNat * 3)).off + 2, none⟩ = some (.int .i64 ((rd_T50 l0 x7_1).f1))) ∧ (Kd.R k64 64 w' w.heap.size (fun k_ => some k_ ≠ (.slice Ao33 xqa_1.length co33 : Value).ownBlock) s_.1 t115) ∧ (Kd.R (Kd.int .i64) 3 w' w.heap.size (fun k_ => some k_ ≠ (.slice Ao34 xqc_1.length co34 : Value).ownBlock) s_.2.1 t119) ∧ (Kd.R k64 64 w' w.heap.size (fun k_ => some k_ ≠ (s_.1 : Value).ownBlock) (.slice Ao33 xqa_1.length co33) xqa_1) ∧ (Kd.R (Kd.int .i64) 3 w' w.heap.size (fun k_ => some k_ ≠ (s_.2.1 : Value).ownBlock) (.slice Ao34 xqc_1.length co34) xqc_1) ∧ (Kd.R k50 50 w' w.heap.size (fun _ => True) u6 x6_1) ∧ (w'.heap[gb108]? = some (.cells #[.slice Ao33 xqa_1.length co33, .int .i64 xqb_1, .slice Ao34 xqc_1.length co34] 25 (0, 0))) ∧ (w'.heap[s_.2.2]? = some (.cells #[.slice none 0 0, .int .i64 0, .slice none 0 0] 25 (0, 0))) ∧ (w.heap.size ≤ s_.2.2) ∧ (w.heap.size ≤ s_.2.2) ∧ (gb108 ≠ s_.2.2) ∧ (s_.2.2 ≠ gb108) ∧ (Below w.heap.size w w')) ?_ ?_
         rotate_left
         ·intro hCont
          refine two_ (i := 5) (j := 9) (Ni := some 47) (Nj := some 9) #[true, true, true, true, true, true, false, false, false, false, false, false] #[true, true, true, true, true, false, false, false, false, true, false, false] rfl rfl rfl rfl (two_of HT_.out (by kernel_rfl)) (by decide) (by decide) (fun K hK => ?_) (fun K hK => ?_)
          ·skip
           refine goes_ Try.func26 (by kernel_rfl) rfl #[.agg #[.slice Ao33 xqa_1.length co33, .int .i64 xqb_1, .slice Ao34 xqc_1.length co34], .agg #[.int .i64 ((rd_T50 l0 x7_1).f0.f0), .int .i64 ((rd_T50 l0 x7_1).f0.f1), .int .i64 ((rd_T50 l0 x7_1).f1)]] (by rfl) rfl rfl zt ?_
           with_reducible refine (tree_Insert.calls _ _ xqa_1 xqb_1 _ _ xqc_1 ((rd_T50 l0 x7_1).f0.f0) ((rd_T50 l0 x7_1).f0.f1) ((rd_T50 l0 x7_1).f1) t115 t118 t119 t122 _ ?side1 ?side2 ?side3 ?side4 A29.out).mono ?_
           (case side1 => exact zc (zX HO_qa.out).2.2)
           (case side2 => exact (zX HO_qa.out).2.1)
           (case side3 => exact zc (zX HO_qc.out).2.2)
           (case side4 => exact (zX HO_qc.out).2.1)
           rintro e w36 ⟨v116, v120, rfl, ho0, ho1, hb⟩
           refine ⟨_, rfl, ?_⟩
           have n0_ := zK (zO (zr HO_6.out) hb)
           have n1_ := zK (yC (zr HO_qa.out) (Kd.R_base ho0) hb)
           have n2_ := zK (yC (zr HO_qc.out) (Kd.R_base ho1) hb)
           have n3_ := zK (zV (zW ho0 (yB (zr HO_qa.out))) (yG (zl HB.out)))
           have n4_ := zK (zV (zW ho1 (yB (zr HO_qc.out))) (yG (zl HB.out)))
           have n5_ := zK (zP (g := gb108) (o := .cells #[.slice Ao33 xqa_1.length co33, .int .i64 xqb_1, .slice Ao34 xqc_1.length co34] 25 (0, 0)) (zb BK108.out) hb)
           have n6_ := zK (yF (zl HB.out) hb)
           clear HO_6
           clear HO_qa
           clear HO_qc
           clear BK108
           clear HB
           have HO_6 := n0_
           have HO_qa := n1_
           have HO_qc := n2_
           have HO117 := n3_
           have HO121 := n4_
           have BK108 := n5_
           have HB := n6_
           clear n0_ n1_ n2_ n3_ n4_ n5_ n6_
           (try clear hb)
           (try clear hb2)
           (try clear hk)
           (try clear hi)
           (try clear ho0)
           (try clear ho1)
           refine hK.out _ _ ⟨(zQ BK108.out 0).trans rfl, (zQ BK108.out 1).trans rfl, (zQ BK108.out 2).trans rfl, ((HB.out.cell (zJ w _ hw114_0)).trans hw114_0), ((HB.out.cell (zJ w _ hw114_1)).trans hw114_1), ((HB.out.cell (zJ w _ hw114_2)).trans hw114_2)⟩ (fun hHeld => ?_)
           clear hK K
           refine norm_ (a' := ?_) ?_ ?_
           rotate_left
           ·show Act.put _ (some 47) _ = _
            simp only [Act.put, zY, zZ, yA, i64_w, i32_w]
            rfl
           refine pure_ (i := 6) (N := some 41) (v := ?_) (a' := ?_) #[true, true, true, true, true, true, true, false, false, false, false, false] rfl rfl (any_of HT_.out (by kernel_rfl)) (fun _ _ _ h => h) (Or.inl ⟨by rfl, ?_⟩) ?_ ?_
           rotate_left
           ·intro w'
            go_simp
            with_reducible rfl
           rotate_left
           ·simp only [Act.put, zY, zZ, yA, i64_w, i32_w]
            rfl
           refine pure_ (i := 7) (N := some 48) (v := ?_) (a' := ?_) #[true, true, true, true, true, true, true, true, false, false, false, false] rfl rfl (any_of HT_.out (by kernel_rfl)) (fun _ _ _ h => h) (Or.inl ⟨by rfl, ?_⟩) ?_ ?_
           rotate_left
           ·intro w'
            go_simp
            with_reducible rfl
           rotate_left
           ·simp only [Act.put, zY, zZ, yA, i64_w, i32_w]
            rfl
           refine pure_ (i := 8) (N := some 49) (v := ?_) (a' := ?_) #[true, true, true, true, true, true, true, true, true, false, false, false] rfl rfl (any_of HT_.out (by kernel_rfl)) (fun _ _ _ h => h) (Or.inl ⟨by rfl, ?_⟩) ?_ ?_
           rotate_left
           ·intro w'
            go_simp
            with_reducible rfl
           rotate_left
           ·simp only [Act.put, zY, zZ, yA, i64_w, i32_w]
            rfl
           refine one_ (i := 9) (N := some 9) #[true, true, true, true, true, true, true, true, true, true, false, false] rfl rfl (one_of HT_.out (by kernel_rfl)) (by decide) (fun K hK => ?_)
           refine box_step ?hg (N := 9) ?hd (cs := #[.slice none 0 0, .int .i64 0, .slice none 0 0]) (t := 25) ?hr ?_; (case hd => rfl); (case hg => rfl); (case hr => first | (go_simp; done) | (go_simp; rfl))
           intro gb123 hg w37 hbox hb
           have n0_ := zK (zO (zr HO_6.out) hb)
           have n1_ := zK (zO (zr HO_qa.out) hb)
           have n2_ := zK (zO (zr HO_qc.out) hb)
           have n3_ := zK (zO (zr HO117.out) hb)
           have n4_ := zK (zO (zr HO121.out) hb)
           have n5_ := zK (zP (g := gb108) (o := .cells #[.slice Ao33 xqa_1.length co33, .int .i64 xqb_1, .slice Ao34 xqc_1.length co34] 25 (0, 0)) (zb BK108.out) hb)
           have n6_ := zK (yF (zl HB.out) hb)
           have n7_ := zK (hbox)
           have n8_ := zK ((by rw [hg]; exact (yG (zl HB.out)) : w.heap.size ≤ gb123))
           have n9_ := zK ((by rw [hg]; exact (yG (zl HB.out)) : w.heap.size ≤ gb123))
           have n10_ := zK ((by rw [hg]; exact zN (blk_lt (g := gb108) (o := .cells #[.slice Ao33 xqa_1.length co33, .int .i64 xqb_1, .slice Ao34 xqc_1.length co34] 25 (0, 0)) (zb BK108.out)) : gb108 ≠ gb123))
           have n11_ := zK ((by rw [hg]; exact Nat.ne_of_gt (blk_lt (g := gb108) (o := .cells #[.slice Ao33 xqa_1.length co33, .int .i64 xqb_1, .slice Ao34 xqc_1.length co34] 25 (0, 0)) (zb BK108.out)) : gb123 ≠ gb108))
           clear HO_6
           clear HO_qa
           clear HO_qc
           clear HO117
           clear HO121
           clear BK108
           clear HB
           have HO_6 := n0_
           have HO_qa := n1_
           have HO_qc := n2_
           have HO117 := n3_
           have HO121 := n4_
           have BK108 := n5_
           have HB := n6_
           have BK123 := n7_
           have GW123 := n8_
           have GE123 := n9_
           have NB108_123 := n10_
           have NB123_108 := n11_
           clear n0_ n1_ n2_ n3_ n4_ n5_ n6_ n7_ n8_ n9_ n10_ n11_
           clear hb hbox hg
           refine hK.out _ _ ⟨(zQ BK108.out 0).trans rfl, (zQ BK108.out 1).trans rfl, (zQ BK108.out 2).trans rfl, ((HB.out.cell (zJ w _ hw114_0)).trans hw114_0), ((HB.out.cell (zJ w _ hw114_1)).trans hw114_1), ((HB.out.cell (zJ w _ hw114_2)).trans hw114_2)⟩ (fun hHeld => ?_)
           clear hK K
           refine norm_ (a' := ?_) ?_ ?_
           rotate_left
           ·show Act.put _ (some 9) _ = _
            simp only [Act.put, zY, zZ, yA, i64_w, i32_w]
            rfl
           exact norm_ (by simp only [putAll, Act.put, zY, zZ, yA]) (hCont (v116, v120, gb123) _ ⟨hHeld, (by (with_reducible repeat (first | apply zA | apply zB | apply zC)); exact Kd.R_mono HO117.out (fun _ hk => hk.2)), (by (with_reducible repeat (first | apply zA | apply zB | apply zC)); exact Kd.R_mono HO121.out (fun _ hk => hk.2)), (by (with_reducible repeat (first | apply zA | apply zB | apply zC)); exact Kd.R_mono HO_qa.out (fun _ hk => hk.2)), (by (with_reducible repeat (first | apply zA | apply zB | apply zC)); exact Kd.R_mono HO_qc.out (fun _ hk => hk.2)), (zr HO_6.out), (zb BK108.out), (zb BK123.out), GW123.out, GE123.out, NB108_123.out, NB123_108.out, (zl HB.out)⟩)
          ·skip
           refine box_step ?hg (N := 9) ?hd (cs := #[.slice none 0 0, .int .i64 0, .slice none 0 0]) (t := 25) ?hr ?_; (case hd => rfl); (case hg => rfl); (case hr => first | (go_simp; done) | (go_simp; rfl))
           intro gb123 hg w36 hbox hb
           have n0_ := zK (zO (zr HO_6.out) hb)
           have n1_ := zK (zO (zr HO_qa.out) hb)
           have n2_ := zK (zO (zr HO_qc.out) hb)
           have n3_ := zK (zP (g := gb108) (o := .cells #[.slice Ao33 xqa_1.length co33, .int .i64 xqb_1, .slice Ao34 xqc_1.length co34] 25 (0, 0)) (zb BK108.out) hb)
           have n4_ := zK (yF (zl HB.out) hb)
           have n5_ := zK (hbox)
           have n6_ := zK ((by rw [hg]; exact (yG (zl HB.out)) : w.heap.size ≤ gb123))
           have n7_ := zK ((by rw [hg]; exact (yG (zl HB.out)) : w.heap.size ≤ gb123))
           have n8_ := zK ((by rw [hg]; exact zN (blk_lt (g := gb108) (o := .cells #[.slice Ao33 xqa_1.length co33, .int .i64 xqb_1, .slice Ao34 xqc_1.length co34] 25 (0, 0)) (zb BK108.out)) : gb108 ≠ gb123))
           have n9_ := zK ((by rw [hg]; exact Nat.ne_of_gt (blk_lt (g := gb108) (o := .cells #[.slice Ao33 xqa_1.length co33, .int .i64 xqb_1, .slice Ao34 xqc_1.length co34] 25 (0, 0)) (zb BK108.out)) : gb123 ≠ gb108))
           clear HO_6
           clear HO_qa
           clear HO_qc
           clear BK108
           clear HB
           have HO_6 := n0_
           have HO_qa := n1_
           have HO_qc := n2_
           have BK108 := n3_
           have HB := n4_
           have BK123 := n5_
           have GW123 := n6_
           have GE123 := n7_
           have NB108_123 := n8_
           have NB123_108 := n9_
           clear n0_ n1_ n2_ n3_ n4_ n5_ n6_ n7_ n8_ n9_
           clear hb hbox hg
           refine hK.out _ _ ⟨(zQ BK108.out 0).trans rfl, (zQ BK108.out 1).trans rfl, (zQ BK108.out 2).trans rfl, ((HB.out.cell (zJ w _ hw114_0)).trans hw114_0), ((HB.out.cell (zJ w _ hw114_1)).trans hw114_1), ((HB.out.cell (zJ w _ hw114_2)).trans hw114_2)⟩ (fun hHeld => ?_)
           clear hK K
           refine norm_ (a' := ?_) ?_ ?_
           rotate_left
           ·show Act.put _ (some 9) _ = _
            simp only [Act.put, zY, zZ, yA, i64_w, i32_w]
            rfl
           refine one_ (i := 5) (N := some 47) #[true, true, true, true, true, true, false, false, false, true, false, false] rfl rfl (one_of HT_.out (by kernel_rfl)) (by decide) (fun K hK => ?_)
           refine goes_ Try.func26 (by kernel_rfl) rfl #[.agg #[.slice Ao33 xqa_1.length co33, .int .i64 xqb_1, .slice Ao34 xqc_1.length co34], .agg #[.int .i64 ((rd_T50 l0 x7_1).f0.f0), .int .i64 ((rd_T50 l0 x7_1).f0.f1), .int .i64 ((rd_T50 l0 x7_1).f1)]] (by rfl) rfl rfl zt ?_
           with_reducible refine (tree_Insert.calls _ _ xqa_1 xqb_1 _ _ xqc_1 ((rd_T50 l0 x7_1).f0.f0) ((rd_T50 l0 x7_1).f0.f1) ((rd_T50 l0 x7_1).f1) t115 t118 t119 t122 _ ?side1 ?side2 ?side3 ?side4 A29.out).mono ?_
           (case side1 => exact zc (zX HO_qa.out).2.2)
           (case side2 => exact (zX HO_qa.out).2.1)
           (case side3 => exact zc (zX HO_qc.out).2.2)
           (case side4 => exact (zX HO_qc.out).2.1)
           rintro e w37 ⟨v116, v120, rfl, ho0, ho1, hb⟩
           refine ⟨_, rfl, ?_⟩
           have n0_ := zK (zO (zr HO_6.out) hb)
           have n1_ := zK (yC (zr HO_qa.out) (Kd.R_base ho0) hb)
           have n2_ := zK (yC (zr HO_qc.out) (Kd.R_base ho1) hb)
           have n3_ := zK (zV (zW ho0 (yB (zr HO_qa.out))) (yG (zl HB.out)))
           have n4_ := zK (zV (zW ho1 (yB (zr HO_qc.out))) (yG (zl HB.out)))
           have n5_ := zK (zP (g := gb108) (o := .cells #[.slice Ao33 xqa_1.length co33, .int .i64 xqb_1, .slice Ao34 xqc_1.length co34] 25 (0, 0)) (zb BK108.out) hb)
           have n6_ := zK (zP (g := gb123) (o := .cells #[.slice none 0 0, .int .i64 0, .slice none 0 0] 25 (0, 0)) (zb BK123.out) hb)
           have n7_ := zK (yF (zl HB.out) hb)
           clear HO_6
           clear HO_qa
           clear HO_qc
           clear BK108
           clear BK123
           clear HB
           have HO_6 := n0_
           have HO_qa := n1_
           have HO_qc := n2_
           have HO117 := n3_
           have HO121 := n4_
           have BK108 := n5_
           have BK123 := n6_
           have HB := n7_
           clear n0_ n1_ n2_ n3_ n4_ n5_ n6_ n7_
           (try clear hb)
           (try clear hb2)
           (try clear hk)
           (try clear hi)
           (try clear ho0)
           (try clear ho1)
           refine hK.out _ _ ⟨(zQ BK108.out 0).trans rfl, (zQ BK108.out 1).trans rfl, (zQ BK108.out 2).trans rfl, ((HB.out.cell (zJ w _ hw114_0)).trans hw114_0), ((HB.out.cell (zJ w _ hw114_1)).trans hw114_1), ((HB.out.cell (zJ w _ hw114_2)).trans hw114_2)⟩ (fun hHeld => ?_)
           clear hK K
           refine norm_ (a' := ?_) ?_ ?_
           rotate_left
           ·show Act.put _ (some 47) _ = _
            simp only [Act.put, zY, zZ, yA, i64_w, i32_w]
            rfl
           refine pure_ (i := 6) (N := some 41) (v := ?_) (a' := ?_) #[true, true, true, true, true, true, true, false, false, true, false, false] rfl rfl (any_of HT_.out (by kernel_rfl)) (fun _ _ _ h => h) (Or.inl ⟨by rfl, ?_⟩) ?_ ?_
           rotate_left
           ·intro w'
            go_simp
            with_reducible rfl
           rotate_left
           ·simp only [Act.put, zY, zZ, yA, i64_w, i32_w]
            rfl
           refine pure_ (i := 7) (N := some 48) (v := ?_) (a' := ?_) #[true, true, true, true, true, true, true, true, false, true, false, false] rfl rfl (any_of HT_.out (by kernel_rfl)) (fun _ _ _ h => h) (Or.inl ⟨by rfl, ?_⟩) ?_ ?_
           rotate_left
           ·intro w'
            go_simp
            with_reducible rfl
           rotate_left
           ·simp only [Act.put, zY, zZ, yA, i64_w, i32_w]
            rfl
           refine pure_ (i := 8) (N := some 49) (v := ?_) (a' := ?_) #[true, true, true, true, true, true, true, true, true, true, false, false] rfl rfl (any_of HT_.out (by kernel_rfl)) (fun _ _ _ h => h) (Or.inl ⟨by rfl, ?_⟩) ?_ ?_
           rotate_left
           ·intro w'
            go_simp
            with_reducible rfl
           rotate_left
           ·simp only [Act.put, zY, zZ, yA, i64_w, i32_w]
            rfl
           exact norm_ (by simp only [putAll, Act.put, zY, zZ, yA]) (hCont (v116, v120, gb123) _ ⟨hHeld, (by (with_reducible repeat (first | apply zA | apply zB | apply zC)); exact Kd.R_mono HO117.out (fun _ hk => hk.2)), (by (with_reducible repeat (first | apply zA | apply zB | apply zC)); exact Kd.R_mono HO121.out (fun _ hk => hk.2)), (by (with_reducible repeat (first | apply zA | apply zB | apply zC)); exact Kd.R_mono HO_qa.out (fun _ hk => hk.2)), (by (with_reducible repeat (first | apply zA | apply zB | apply zC)); exact Kd.R_mono HO_qc.out (fun _ hk => hk.2)), (zr HO_6.out), (zb BK108.out), (zb BK123.out), GW123.out, GE123.out, NB108_123.out, NB123_108.out, (zl HB.out)⟩)
         rintro ⟨v116, v120, gb123⟩ w38 ⟨hS_, h0_, h1_, h2_, h3_, h4_, h5_, h6_, h7_, h8_, h9_, h10_, h11_⟩
         have n0_ : Aside0 (Kd.R k64 64 w38 w.heap.size (fun k_ => some k_ ≠ (.slice Ao33 xqa_1.length co33 : Value).ownBlock) v116 t115) := ⟨h0_⟩
         have n1_ : Aside0 (Kd.R (Kd.int .i64) 3 w38 w.heap.size (fun k_ => some k_ ≠ (.slice Ao34 xqc_1.length co34 : Value).ownBlock) v120 t119) := ⟨h1_⟩
         have n2_ : Aside0 (Kd.R k64 64 w38 w.heap.size (fun k_ => some k_ ≠ (v116 : Value).ownBlock) (.slice Ao33 xqa_1.length co33) xqa_1) := ⟨h2_⟩
         have n3_ : Aside0 (Kd.R (Kd.int .i64) 3 w38 w.heap.size (fun k_ => some k_ ≠ (v120 : Value).ownBlock) (.slice Ao34 xqc_1.length co34) xqc_1) := ⟨h3_⟩
         have n4_ : Aside0 (Kd.R k50 50 w38 w.heap.size (fun _ => True) u6 x6_1) := ⟨h4_⟩
         have n5_ : Aside0 (w38.heap[gb108]? = some (.cells #[.slice Ao33 xqa_1.length co33, .int .i64 xqb_1, .slice Ao34 xqc_1.length co34] 25 (0, 0))) := ⟨h5_⟩
         have n6_ : Aside0 (w38.heap[gb123]? = some (.cells #[.slice none 0 0, .int .i64 0, .slice none 0 0] 25 (0, 0))) := ⟨h6_⟩
         have n7_ : Aside0 (w.heap.size ≤ gb123) := ⟨h7_⟩
         have n8_ : Aside0 (w.heap.size ≤ gb123) := ⟨h8_⟩
         have n9_ : Aside0 (gb108 ≠ gb123) := ⟨h9_⟩
         have n10_ : Aside0 (gb123 ≠ gb108) := ⟨h10_⟩
         have n11_ : Aside0 (Below w.heap.size w w38) := ⟨h11_⟩
         clear HO_6
         clear HO_qa
         clear HO_qc
         clear BK108
         clear HB
         clear h0_ h1_ h2_ h3_ h4_ h5_ h6_ h7_ h8_ h9_ h10_ h11_
         have HO117 := n0_
         have HO121 := n1_
         have HO_qa := n2_
         have HO_qc := n3_
         have HO_6 := n4_
         have BK108 := n5_
         have BK123 := n6_
         have GW123 := n7_
         have GE123 := n8_
         have NB108_123 := n9_
         have NB123_108 := n10_
         have HB := n11_
         clear n0_ n1_ n2_ n3_ n4_ n5_ n6_ n7_ n8_ n9_ n10_ n11_
         have hHeld : w38.cell? ⟨gb108, 0, none⟩ = some (.slice Ao33 xqa_1.length co33) ∧ w38.cell? ⟨gb108, 1, none⟩ = some (.int .i64 xqb_1) ∧ w38.cell? ⟨gb108, 2, none⟩ = some (.slice Ao34 xqc_1.length co34) ∧ w38.cell? (ad114.add ((x7_1).toNat * 3)) = some (.int .i64 ((rd_T50 l0 x7_1).f0.f0)) ∧ w38.cell? ⟨(ad114.add ((x7_1).toNat * 3)).block, (ad114.add ((x7_1).toNat * 3)).off + 1, none⟩ = some (.int .i64 ((rd_T50 l0 x7_1).f0.f1)) ∧ w38.cell? ⟨(ad114.add ((x7_1).toNat * 3)).block, (ad114.add ((x7_1).toNat * 3)).off + 2, none⟩ = some (.int .i64 ((rd_T50 l0 x7_1).f1)) := hS_
         obtain ⟨Ao39, co39, eo39⟩ := yE HO117.out
         (first | subst eo39 | (injection eo39 with f1_ f2_ f3_; have f4_ := f1_.symm; have f5_ := f3_.symm; clear f1_ f2_ f3_; subst f4_; subst f5_))
         obtain ⟨Ao42, co42, eo42⟩ := yE HO121.out
         (first | subst eo42 | (injection eo42 with f1_ f2_ f3_; have f4_ := f1_.symm; have f5_ := f3_.symm; clear f1_ f2_ f3_; subst f4_; subst f5_))
         refine norm_ (a' := ?_) ?_ ?_
         rotate_left
         ·simp only [putAll, Act.put, zY, zZ, yA]
          rfl
         refine one_ (i := 10) (N := none) #[true, true, true, true, true, true, true, true, true, true, true, false] rfl rfl (one_of HT_.out (by kernel_rfl)) (by decide) (fun K hK => ?_)
         have hs40 : w38.cell? ⟨gb123, 0, none⟩ = some (.slice none 0 0) := (zQ BK123.out 0).trans rfl
         have hfs40 := zR BK123.out 0
         have hns40_0 := NB108_123.out
         have hms40_0 := NB123_108.out
         have hs41 : w38.cell? ⟨gb123, 1, none⟩ = some (.int .i64 0) := (zQ BK123.out 1).trans rfl
         have hfs41 := zR BK123.out 1
         have hns41_0 := NB108_123.out
         have hms41_0 := NB123_108.out
         have hs43 : w38.cell? ⟨gb123, 2, none⟩ = some (.slice none 0 0) := (zQ BK123.out 2).trans rfl
         have hfs43 := zR BK123.out 2
         have hns43_0 := NB108_123.out
         have hms43_0 := NB123_108.out
         refine skip_ (w1 := ?_) (by rfl) rfl ?_ ?_
         rotate_left
         ·go_simp
          rfl
         refine hK.out _ _ ⟨((cell_far (p := ⟨gb123, _, none⟩) NB108_123.out _).trans (((cell_far (p := ⟨gb123, _, none⟩) NB108_123.out _).trans (((cell_far (p := ⟨gb123, _, none⟩) NB108_123.out _).trans (hHeld.1)))))), ((cell_far (p := ⟨gb123, _, none⟩) NB108_123.out _).trans (((cell_far (p := ⟨gb123, _, none⟩) NB108_123.out _).trans (((cell_far (p := ⟨gb123, _, none⟩) NB108_123.out _).trans (hHeld.2.1)))))), ((cell_far (p := ⟨gb123, _, none⟩) NB108_123.out _).trans (((cell_far (p := ⟨gb123, _, none⟩) NB108_123.out _).trans (((cell_far (p := ⟨gb123, _, none⟩) NB108_123.out _).trans (hHeld.2.2.1)))))), ((cell_far (p := ⟨gb123, _, none⟩) (by first | exact zN (zM (by have := zJ _ _ hw114_0; first | rwa [add_block] at this | exact this) GW123.out) | (rw [add_block]; exact zN (zM (by have := zJ _ _ hw114_0; first | rwa [add_block] at this | exact this) GW123.out)) | (show (Addr.add _ _).block ≠ _; rw [add_block]; exact zN (zM (by have := zJ _ _ hw114_0; first | rwa [add_block] at this | exact this) GW123.out)) | (dsimp only; exact zN (zM (by have := zJ _ _ hw114_0; first | rwa [add_block] at this | exact this) GW123.out))) _).trans (((cell_far (p := ⟨gb123, _, none⟩) (by first | exact zN (zM (by have := zJ _ _ hw114_0; first | rwa [add_block] at this | exact this) GW123.out) | (rw [add_block]; exact zN (zM (by have := zJ _ _ hw114_0; first | rwa [add_block] at this | exact this) GW123.out)) | (show (Addr.add _ _).block ≠ _; rw [add_block]; exact zN (zM (by have := zJ _ _ hw114_0; first | rwa [add_block] at this | exact this) GW123.out)) | (dsimp only; exact zN (zM (by have := zJ _ _ hw114_0; first | rwa [add_block] at this | exact this) GW123.out))) _).trans (((cell_far (p := ⟨gb123, _, none⟩) (by first | exact zN (zM (by have := zJ _ _ hw114_0; first | rwa [add_block] at this | exact this) GW123.out) | (rw [add_block]; exact zN (zM (by have := zJ _ _ hw114_0; first | rwa [add_block] at this | exact this) GW123.out)) | (show (Addr.add _ _).block ≠ _; rw [add_block]; exact zN (zM (by have := zJ _ _ hw114_0; first | rwa [add_block] at this | exact this) GW123.out)) | (dsimp only; exact zN (zM (by have := zJ _ _ hw114_0; first | rwa [add_block] at this | exact this) GW123.out))) _).trans (hHeld.2.2.2.1)))))), ((cell_far (p := ⟨gb123, _, none⟩) (by first | exact zN (zM (by have := zJ _ _ hw114_1; first | rwa [add_block] at this | exact this) GW123.out) | (rw [add_block]; exact zN (zM (by have := zJ _ _ hw114_1; first | rwa [add_block] at this | exact this) GW123.out)) | (show (Addr.add _ _).block ≠ _; rw [add_block]; exact zN (zM (by have := zJ _ _ hw114_1; first | rwa [add_block] at this | exact this) GW123.out)) | (dsimp only; exact zN (zM (by have := zJ _ _ hw114_1; first | rwa [add_block] at this | exact this) GW123.out))) _).trans (((cell_far (p := ⟨gb123, _, none⟩) (by first | exact zN (zM (by have := zJ _ _ hw114_1; first | rwa [add_block] at this | exact this) GW123.out) | (rw [add_block]; exact zN (zM (by have := zJ _ _ hw114_1; first | rwa [add_block] at this | exact this) GW123.out)) | (show (Addr.add _ _).block ≠ _; rw [add_block]; exact zN (zM (by have := zJ _ _ hw114_1; first | rwa [add_block] at this | exact this) GW123.out)) | (dsimp only; exact zN (zM (by have := zJ _ _ hw114_1; first | rwa [add_block] at this | exact this) GW123.out))) _).trans (((cell_far (p := ⟨gb123, _, none⟩) (by first | exact zN (zM (by have := zJ _ _ hw114_1; first | rwa [add_block] at this | exact this) GW123.out) | (rw [add_block]; exact zN (zM (by have := zJ _ _ hw114_1; first | rwa [add_block] at this | exact this) GW123.out)) | (show (Addr.add _ _).block ≠ _; rw [add_block]; exact zN (zM (by have := zJ _ _ hw114_1; first | rwa [add_block] at this | exact this) GW123.out)) | (dsimp only; exact zN (zM (by have := zJ _ _ hw114_1; first | rwa [add_block] at this | exact this) GW123.out))) _).trans (hHeld.2.2.2.2.1)))))), ((cell_far (p := ⟨gb123, _, none⟩) (by first | exact zN (zM (by have := zJ _ _ hw114_2; first | rwa [add_block] at this | exact this) GW123.out) | (rw [add_block]; exact zN (zM (by have := zJ _ _ hw114_2; first | rwa [add_block] at this | exact this) GW123.out)) | (show (Addr.add _ _).block ≠ _; rw [add_block]; exact zN (zM (by have := zJ _ _ hw114_2; first | rwa [add_block] at this | exact this) GW123.out)) | (dsimp only; exact zN (zM (by have := zJ _ _ hw114_2; first | rwa [add_block] at this | exact this) GW123.out))) _).trans (((cell_far (p := ⟨gb123, _, none⟩) (by first | exact zN (zM (by have := zJ _ _ hw114_2; first | rwa [add_block] at this | exact this) GW123.out) | (rw [add_block]; exact zN (zM (by have := zJ _ _ hw114_2; first | rwa [add_block] at this | exact this) GW123.out)) | (show (Addr.add _ _).block ≠ _; rw [add_block]; exact zN (zM (by have := zJ _ _ hw114_2; first | rwa [add_block] at this | exact this) GW123.out)) | (dsimp only; exact zN (zM (by have := zJ _ _ hw114_2; first | rwa [add_block] at this | exact this) GW123.out))) _).trans (((cell_far (p := ⟨gb123, _, none⟩) (by first | exact zN (zM (by have := zJ _ _ hw114_2; first | rwa [add_block] at this | exact this) GW123.out) | (rw [add_block]; exact zN (zM (by have := zJ _ _ hw114_2; first | rwa [add_block] at this | exact this) GW123.out)) | (show (Addr.add _ _).block ≠ _; rw [add_block]; exact zN (zM (by have := zJ _ _ hw114_2; first | rwa [add_block] at this | exact this) GW123.out)) | (dsimp only; exact zN (zM (by have := zJ _ _ hw114_2; first | rwa [add_block] at this | exact this) GW123.out))) _).trans (hHeld.2.2.2.2.2))))))⟩ (fun hHeld => ?_)
         clear hK K
         refine pure_ (i := 11) (N := some 10) (v := ?_) (a' := ?_) #[true, true, true, true, true, true, true, true, true, true, true, true] rfl rfl (any_of HT_.out (by kernel_rfl)) (fun _ _ _ h => h) (Or.inl ⟨by rfl, ?_⟩) ?_ ?_
         rotate_left
         ·intro w'
          go_simp
          with_reducible rfl
         rotate_left
         ·simp only [Act.put, zY, zZ, yA, i64_w, i32_w]
          rfl
         refine done_ (done_of HT_.out (by kernel_rfl)) ?_
         go_upto_if 55 with (first | ((with_reducible refine gate_callee (f := 19) rfl ?_); refine goesL_ (some 51) rfl rfl Try.func19 (by kernel_rfl) rfl #[.int .i64 t122] rfl zt ?_; (with_reducible refine (tollbarlaw0_Num.calls t122 t124 _ A30.out).mono ?_); rintro e w' ⟨rfl, ⟨nd, rfl⟩⟩; refine ⟨_, rfl, ?_⟩))
         (try simp only [Act.put, zY, zZ, yA])
         go_cut [6] (fun v6 wc => ∃ (kq : Nat) (x6_31 : List (S50)) (xqa_31 : List (S64)) (xqb_31 : Int) (xqc_31 : List Int) (uqa : Value) (uqc : Value), Aside0 (tollbarlaw17_TreeGrows.j2 kq l0 l1 x6_31 x7_1 xqa_31 xqb_31 xqc_31 = some r) ∧ Aside0 (kq ≤ kj9) ∧ Aside0 (Kd.R k50 50 wc w.heap.size (fun _ => True) v6 x6_31) ∧ Aside0 (Kd.R k64 64 wc w.heap.size (fun _ => True) uqa xqa_31) ∧ Aside0 (Kd.R (Kd.int .i64) 3 wc w.heap.size (fun _ => True) uqc xqc_31) ∧ Aside0 (Kd.R k64 64 wc w.heap.size (fun _ => True) (.slice Ao39 t115.length co39) t115) ∧ Aside0 (Kd.R (Kd.int .i64) 3 wc w.heap.size (fun _ => True) (.slice Ao42 t119.length co42) t119) ∧ Aside0 (wc.heap[gb108]? = some (.cells #[uqa, .int .i64 xqb_31, uqc] 25 (0, 0))) ∧ Aside0 (wc.heap[gb123]? = some (.cells #[(.slice Ao39 t115.length co39), .int .i64 t118, (.slice Ao42 t119.length co42)] 25 (0, 0))) ∧ Aside0 (Below w.heap.size w wc))
         case first =>
          have H := HC32.out
          clear HC32
          by_cases c44 : x8_9 = 0
          ·rw [if_pos c44] at H
           have c44b0 : (x8_9 == 0) = true := yI.mpr c44
           have c44b1 : (x8_9 != 0) = false := yJ.mpr c44
           clear c44
           (first | rw [c44b0] | (simp only [i64_w, i32_w]; rw [c44b0]) | skip)
           replace H := yH.mp H
           obtain ⟨t126, A450, H⟩ := H
           replace H : (tollbarlaw17_TreeGrows.j2 kj9 l0 l1 t126 x7_1 t115 t118 t119) = some r := H
           have A45 := zK A450
           clear A450
           have H' := zK H
           clear H
           have p125 : 0 ≤ (x7_1 : Int) := of_decide_eq_true (by first | (with_reducible assumption) | assumption)
           have q125 : x7_1 < (l0.length : Int) := of_decide_eq_true (by first | (with_reducible assumption) | assumption)
           obtain ⟨ad125, e125, hx125_0, hx125_1, hx125_2⟩ := at_T50 HR0.out x7_1 p125 q125
           obtain rfl : ad114 = ad125 := (by injection e125)
           have hn125_0 : ad114.block ≠ gb123 := zN (zM (by have := zJ _ _ hx125_0; first | rwa [add_block] at this | exact this) GW123.out)
           have hn125_1 : ad114.block ≠ gb123 := zN (zM (by have := zJ _ _ hx125_0; first | rwa [add_block] at this | exact this) GW123.out)
           have hn125_2 : ad114.block ≠ gb123 := zN (zM (by have := zJ _ _ hx125_0; first | rwa [add_block] at this | exact this) GW123.out)
           replace hx125_0 := (HB.out.cell (zJ w _ hx125_0)).trans hx125_0
           replace hx125_1 := (HB.out.cell (zJ w _ hx125_1)).trans hx125_1
           replace hx125_2 := (HB.out.cell (zJ w _ hx125_2)).trans hx125_2
           replace hx125_0 := (cell_far (p := ⟨gb123, 0, none⟩) (by first | (rw [add_block]; exact hn125_0) | (show (Addr.add _ _).block ≠ _; rw [add_block]; exact hn125_0) | exact hn125_0) (.slice Ao39 t115.length co39)).trans hx125_0
           replace hx125_1 := (cell_far (p := ⟨gb123, 0, none⟩) (by first | (rw [add_block]; exact hn125_0) | (show (Addr.add _ _).block ≠ _; rw [add_block]; exact hn125_0) | exact hn125_0) (.slice Ao39 t115.length co39)).trans hx125_1
           replace hx125_2 := (cell_far (p := ⟨gb123, 0, none⟩) (by first | (rw [add_block]; exact hn125_0) | (show (Addr.add _ _).block ≠ _; rw [add_block]; exact hn125_0) | exact hn125_0) (.slice Ao39 t115.length co39)).trans hx125_2
           replace hx125_0 := (cell_far (p := ⟨gb123, 1, none⟩) (by first | (rw [add_block]; exact hn125_1) | (show (Addr.add _ _).block ≠ _; rw [add_block]; exact hn125_1) | exact hn125_1) (.int .i64 t118)).trans hx125_0
           replace hx125_1 := (cell_far (p := ⟨gb123, 1, none⟩) (by first | (rw [add_block]; exact hn125_1) | (show (Addr.add _ _).block ≠ _; rw [add_block]; exact hn125_1) | exact hn125_1) (.int .i64 t118)).trans hx125_1
           replace hx125_2 := (cell_far (p := ⟨gb123, 1, none⟩) (by first | (rw [add_block]; exact hn125_1) | (show (Addr.add _ _).block ≠ _; rw [add_block]; exact hn125_1) | exact hn125_1) (.int .i64 t118)).trans hx125_2
           replace hx125_0 := (cell_far (p := ⟨gb123, 2, none⟩) (by first | (rw [add_block]; exact hn125_2) | (show (Addr.add _ _).block ≠ _; rw [add_block]; exact hn125_2) | exact hn125_2) (.slice Ao42 t119.length co42)).trans hx125_0
           replace hx125_1 := (cell_far (p := ⟨gb123, 2, none⟩) (by first | (rw [add_block]; exact hn125_2) | (show (Addr.add _ _).block ≠ _; rw [add_block]; exact hn125_2) | exact hn125_2) (.slice Ao42 t119.length co42)).trans hx125_1
           replace hx125_2 := (cell_far (p := ⟨gb123, 2, none⟩) (by first | (rw [add_block]; exact hn125_2) | (show (Addr.add _ _).block ≠ _; rw [add_block]; exact hn125_2) | exact hn125_2) (.slice Ao42 t119.length co42)).trans hx125_2
           clear hn125_0
           clear hn125_1
           clear hn125_2
           replace p125 := eq_true p125
           replace q125 := eq_true q125
           obtain ⟨Ao46, co46, eo46⟩ := yE HO_6.out
           subst eo46
           go_wp2_with (first | ((with_reducible refine gate_callee (f := 28) rfl ?_); refine goesL_ (some 61) rfl rfl Try.func28 (by kernel_rfl) rfl #[.slice Ao46 x6_1.length co46, .agg #[.int .i64 ((rd_T50 l0 x7_1).f0.f0), .int .i64 ((rd_T50 l0 x7_1).f0.f1), .int .i64 ((rd_T50 l0 x7_1).f1)]] rfl zt ?_; (with_reducible refine (tollbarref17_With.calls kj9 _ _ x6_1 ((rd_T50 l0 x7_1).f0.f0) ((rd_T50 l0 x7_1).f0.f1) ((rd_T50 l0 x7_1).f1) t126 _ ?side1 ?side2 A45.out).mono ?_); (case side1 => refine (zX (e := 50) (base := w.heap.size) (ok := fun k_ => True) (n := x6_1.length) (c := co46) ?_).2.2; exact (by (with_reducible repeat (first | apply zA | apply zB | apply zC)); exact (Kd.R_mono (Kd.R_far (p := ⟨gb123, 2, none⟩) (Kd.R_far (p := ⟨gb123, 1, none⟩) (Kd.R_far (p := ⟨gb123, 0, none⟩) (Kd.R_types HO_6.out BK123.out (by decide)) (fun _ hk => hk.2) (.slice Ao39 t115.length co39)) (fun _ hk => hk.2) (.int .i64 t118)) (fun _ hk => hk.2) (.slice Ao42 t119.length co42)) (fun _ h_ => h_.1)))); (case side2 => exact (zX HO_6.out).2.1); rintro e w47 ⟨v127, rfl, ho0, hb⟩; refine ⟨_, rfl, ?_⟩; have n0_ := zK (yC (by (with_reducible repeat (first | apply zA | apply zB | apply zC)); exact (Kd.R_mono (Kd.R_far (p := ⟨gb123, 2, none⟩) (Kd.R_far (p := ⟨gb123, 1, none⟩) (Kd.R_far (p := ⟨gb123, 0, none⟩) (Kd.R_types HO_6.out BK123.out (by decide)) (fun _ hk => hk.2) (.slice Ao39 t115.length co39)) (fun _ hk => hk.2) (.int .i64 t118)) (fun _ hk => hk.2) (.slice Ao42 t119.length co42)) (fun _ h_ => h_.1))) (Kd.R_base ho0) hb); have n1_ := zK (zO (by (with_reducible repeat (first | apply zA | apply zB | apply zC)); exact (Kd.R_mono (Kd.R_far (p := ⟨gb123, 2, none⟩) (Kd.R_far (p := ⟨gb123, 1, none⟩) (Kd.R_far (p := ⟨gb123, 0, none⟩) (Kd.R_types HO_qa.out BK123.out (by decide)) (fun _ hk => hk.2) (.slice Ao39 t115.length co39)) (fun _ hk => hk.2) (.int .i64 t118)) (fun _ hk => hk.2) (.slice Ao42 t119.length co42)) (fun _ h_ => h_.1))) hb); have n2_ := zK (zO (by (with_reducible repeat (first | apply zA | apply zB | apply zC)); exact (Kd.R_mono (Kd.R_far (p := ⟨gb123, 2, none⟩) (Kd.R_far (p := ⟨gb123, 1, none⟩) (Kd.R_far (p := ⟨gb123, 0, none⟩) (Kd.R_types HO_qc.out BK123.out (by decide)) (fun _ hk => hk.2) (.slice Ao39 t115.length co39)) (fun _ hk => hk.2) (.int .i64 t118)) (fun _ hk => hk.2) (.slice Ao42 t119.length co42)) (fun _ h_ => h_.1))) hb); have n3_ := zK (zO (by (with_reducible repeat (first | apply zA | apply zB | apply zC)); exact (Kd.R_mono (Kd.R_far (p := ⟨gb123, 2, none⟩) (Kd.R_far (p := ⟨gb123, 1, none⟩) (Kd.R_far (p := ⟨gb123, 0, none⟩) (Kd.R_types HO117.out BK123.out (by decide)) (fun _ hk => hk.2) (.slice Ao39 t115.length co39)) (fun _ hk => hk.2) (.int .i64 t118)) (fun _ hk => hk.2) (.slice Ao42 t119.length co42)) (fun _ h_ => h_.1))) hb); have n4_ := zK (zO (by (with_reducible repeat (first | apply zA | apply zB | apply zC)); exact (Kd.R_mono (Kd.R_far (p := ⟨gb123, 2, none⟩) (Kd.R_far (p := ⟨gb123, 1, none⟩) (Kd.R_far (p := ⟨gb123, 0, none⟩) (Kd.R_types HO121.out BK123.out (by decide)) (fun _ hk => hk.2) (.slice Ao39 t115.length co39)) (fun _ hk => hk.2) (.int .i64 t118)) (fun _ hk => hk.2) (.slice Ao42 t119.length co42)) (fun _ h_ => h_.1))) hb); have n5_ := zK (zV (zW ho0 (yB (by (with_reducible repeat (first | apply zA | apply zB | apply zC)); exact (Kd.R_mono (Kd.R_far (p := ⟨gb123, 2, none⟩) (Kd.R_far (p := ⟨gb123, 1, none⟩) (Kd.R_far (p := ⟨gb123, 0, none⟩) (Kd.R_types HO_6.out BK123.out (by decide)) (fun _ hk => hk.2) (.slice Ao39 t115.length co39)) (fun _ hk => hk.2) (.int .i64 t118)) (fun _ hk => hk.2) (.slice Ao42 t119.length co42)) (fun _ h_ => h_.1))))) (yG (zl HB.out))); have n6_ := zK (zP (g := gb108) (o := .cells #[.slice Ao33 xqa_1.length co33, .int .i64 xqb_1, .slice Ao34 xqc_1.length co34] 25 (0, 0)) (by (with_reducible repeat (first | refine zD ?_ _ | refine zE ?_ | refine zF ?_ _)); refine blk_far ?_ NB108_123.out _; (with_reducible repeat (first | refine zD ?_ _ | refine zE ?_ | refine zF ?_ _)); refine blk_far ?_ NB108_123.out _; (with_reducible repeat (first | refine zD ?_ _ | refine zE ?_ | refine zF ?_ _)); refine blk_far ?_ NB108_123.out _; (with_reducible repeat (first | refine zD ?_ _ | refine zE ?_ | refine zF ?_ _)); exact BK108.out) hb); have n7_ := zK (zP (g := gb123) (o := .cells #[.slice Ao39 t115.length co39, .int .i64 t118, .slice Ao42 t119.length co42] 25 (0, 0)) (by (with_reducible repeat (first | refine zD ?_ _ | refine zE ?_ | refine zF ?_ _)); refine blk_put (cs := #[.slice Ao39 t115.length co39, .int .i64 t118, .slice none 0 0]) ?_ 2 _ rfl; (with_reducible repeat (first | refine zD ?_ _ | refine zE ?_ | refine zF ?_ _)); refine blk_put (cs := #[.slice Ao39 t115.length co39, .int .i64 0, .slice none 0 0]) ?_ 1 _ rfl; (with_reducible repeat (first | refine zD ?_ _ | refine zE ?_ | refine zF ?_ _)); refine blk_put (cs := #[.slice none 0 0, .int .i64 0, .slice none 0 0]) ?_ 0 _ rfl; (with_reducible repeat (first | refine zD ?_ _ | refine zE ?_ | refine zF ?_ _)); exact BK123.out) hb); have n8_ := zK (yF (zl HB.out) hb); clear HO_6; clear HO_qa; clear HO_qc; clear HO117; clear HO121; clear BK108; clear BK123; clear HB; have HO_6 := n0_; have HO_qa := n1_; have HO_qc := n2_; have HO117 := n3_; have HO121 := n4_; have HO128 := n5_; have BK108 := n6_; have BK123 := n7_; have HB := n8_; clear n0_ n1_ n2_ n3_ n4_ n5_ n6_ n7_ n8_; (try clear hb); (try clear hb2); (try clear hk); (try clear hi); (try clear ho0); have hnb48 := NB123_108.out; have hnc48 := NB108_123.out; have hcz49_0 : w47.cell? ⟨gb123, 0, none⟩ = some (.slice Ao39 t115.length co39) := (zQ BK123.out 0).trans rfl; have hcz49_1 : w47.cell? ⟨gb123, 1, none⟩ = some (.int .i64 t118) := (zQ BK123.out 1).trans rfl; have hcz49_2 : w47.cell? ⟨gb123, 2, none⟩ = some (.slice Ao42 t119.length co42) := (zQ BK123.out 2).trans rfl; have hfz49_0 := zR BK123.out 0; have hfz49_1 := zR BK123.out 1; have hfz49_2 := zR BK123.out 2; have hcz50_0 : w47.cell? ⟨gb108, 0, none⟩ = some (.slice Ao33 xqa_1.length co33) := (zQ BK108.out 0).trans rfl; have hcz50_1 : w47.cell? ⟨gb108, 1, none⟩ = some (.int .i64 xqb_1) := (zQ BK108.out 1).trans rfl; have hcz50_2 : w47.cell? ⟨gb108, 2, none⟩ = some (.slice Ao34 xqc_1.length co34) := (zQ BK108.out 2).trans rfl; have hfz50_0 := zR BK108.out 0; have hfz50_1 := zR BK108.out 1; have hfz50_2 := zR BK108.out 2))
           go_meet
           case rel => exact ⟨_, (t126), (t115), (t118), (t119), (.slice Ao39 t115.length co39), (.slice Ao42 t119.length co42), H', ⟨by have := HK1.out; have := HJ9.out; first | omega | exact Nat.le_refl _⟩, ⟨by (with_reducible repeat (first | apply zA | apply zB | apply zC)); exact Kd.R_mono (Kd.R_far (p := ⟨gb108, 2, none⟩) (Kd.R_far (p := ⟨gb108, 1, none⟩) (Kd.R_far (p := ⟨gb108, 0, none⟩) (Kd.R_types HO128.out BK108.out (by decide)) (fun _ hk => hk.2) (.slice Ao39 t115.length co39)) (fun _ hk => hk.2) (.int .i64 t118)) (fun _ hk => hk.2) (.slice Ao42 t119.length co42)) (fun _ _ => by trivial)⟩, ⟨by (with_reducible repeat (first | apply zA | apply zB | apply zC)); exact Kd.R_mono (Kd.R_far (p := ⟨gb108, 2, none⟩) (Kd.R_far (p := ⟨gb108, 1, none⟩) (Kd.R_far (p := ⟨gb108, 0, none⟩) (Kd.R_types HO117.out BK108.out (by decide)) (fun _ hk => hk.2) (.slice Ao39 t115.length co39)) (fun _ hk => hk.2) (.int .i64 t118)) (fun _ hk => hk.2) (.slice Ao42 t119.length co42)) (fun _ _ => by trivial)⟩, ⟨by (with_reducible repeat (first | apply zA | apply zB | apply zC)); exact Kd.R_mono (Kd.R_far (p := ⟨gb108, 2, none⟩) (Kd.R_far (p := ⟨gb108, 1, none⟩) (Kd.R_far (p := ⟨gb108, 0, none⟩) (Kd.R_types HO121.out BK108.out (by decide)) (fun _ hk => hk.2) (.slice Ao39 t115.length co39)) (fun _ hk => hk.2) (.int .i64 t118)) (fun _ hk => hk.2) (.slice Ao42 t119.length co42)) (fun _ _ => by trivial)⟩, ⟨by (with_reducible repeat (first | apply zA | apply zB | apply zC)); exact Kd.R_mono (Kd.R_far (p := ⟨gb108, 2, none⟩) (Kd.R_far (p := ⟨gb108, 1, none⟩) (Kd.R_far (p := ⟨gb108, 0, none⟩) (Kd.R_types HO117.out BK108.out (by decide)) (fun _ hk => hk.2) (.slice Ao39 t115.length co39)) (fun _ hk => hk.2) (.int .i64 t118)) (fun _ hk => hk.2) (.slice Ao42 t119.length co42)) (fun _ _ => by trivial)⟩, ⟨by (with_reducible repeat (first | apply zA | apply zB | apply zC)); exact Kd.R_mono (Kd.R_far (p := ⟨gb108, 2, none⟩) (Kd.R_far (p := ⟨gb108, 1, none⟩) (Kd.R_far (p := ⟨gb108, 0, none⟩) (Kd.R_types HO121.out BK108.out (by decide)) (fun _ hk => hk.2) (.slice Ao39 t115.length co39)) (fun _ hk => hk.2) (.int .i64 t118)) (fun _ hk => hk.2) (.slice Ao42 t119.length co42)) (fun _ _ => by trivial)⟩, ⟨by (with_reducible repeat (first | refine zD ?_ _ | refine zE ?_ | refine zF ?_ _)); refine blk_put (cs := #[.slice Ao39 t115.length co39, .int .i64 t118, .slice Ao34 xqc_1.length co34]) ?_ 2 _ rfl; (with_reducible repeat (first | refine zD ?_ _ | refine zE ?_ | refine zF ?_ _)); refine blk_put (cs := #[.slice Ao39 t115.length co39, .int .i64 xqb_1, .slice Ao34 xqc_1.length co34]) ?_ 1 _ rfl; (with_reducible repeat (first | refine zD ?_ _ | refine zE ?_ | refine zF ?_ _)); refine blk_put (cs := #[.slice Ao33 xqa_1.length co33, .int .i64 xqb_1, .slice Ao34 xqc_1.length co34]) ?_ 0 _ rfl; (with_reducible repeat (first | refine zD ?_ _ | refine zE ?_ | refine zF ?_ _)); exact BK108.out⟩, ⟨by (with_reducible repeat (first | refine zD ?_ _ | refine zE ?_ | refine zF ?_ _)); refine blk_far ?_ NB123_108.out _; (with_reducible repeat (first | refine zD ?_ _ | refine zE ?_ | refine zF ?_ _)); refine blk_far ?_ NB123_108.out _; (with_reducible repeat (first | refine zD ?_ _ | refine zE ?_ | refine zF ?_ _)); refine blk_far ?_ NB123_108.out _; (with_reducible repeat (first | refine zD ?_ _ | refine zE ?_ | refine zF ?_ _)); exact BK123.out⟩, ⟨by repeat (first | (with_reducible first | exact HB.out | apply zG | apply zH | apply zI | refine zL ?_ GE108.out | refine zL ?_ GE123.out) | exact HB.out)⟩⟩
          ·rw [if_neg c44] at H
           have c44b0 : (x8_9 == 0) = false := yK.mpr c44
           have c44b1 : (x8_9 != 0) = true := yL.mpr c44
           (first | rw [c44b0] | (simp only [i64_w, i32_w]; rw [c44b0]) | skip)
           have H' := zK H
           clear H
           go_wp2
           go_meet
           case rel => exact ⟨_, (x6_1), (xqa_1), (xqb_1), (xqc_1), (.slice Ao33 xqa_1.length co33), (.slice Ao34 xqc_1.length co34), H', ⟨by have := HK1.out; have := HJ9.out; first | omega | exact Nat.le_refl _⟩, ⟨by (with_reducible repeat (first | apply zA | apply zB | apply zC)); exact Kd.R_mono (Kd.R_far (p := ⟨gb123, 2, none⟩) (Kd.R_far (p := ⟨gb123, 1, none⟩) (Kd.R_far (p := ⟨gb123, 0, none⟩) (Kd.R_types HO_6.out BK123.out (by decide)) (fun _ hk => hk.2) (.slice Ao39 t115.length co39)) (fun _ hk => hk.2) (.int .i64 t118)) (fun _ hk => hk.2) (.slice Ao42 t119.length co42)) (fun _ _ => by trivial)⟩, ⟨by (with_reducible repeat (first | apply zA | apply zB | apply zC)); exact Kd.R_mono (Kd.R_far (p := ⟨gb123, 2, none⟩) (Kd.R_far (p := ⟨gb123, 1, none⟩) (Kd.R_far (p := ⟨gb123, 0, none⟩) (Kd.R_types HO_qa.out BK123.out (by decide)) (fun _ hk => hk.2) (.slice Ao39 t115.length co39)) (fun _ hk => hk.2) (.int .i64 t118)) (fun _ hk => hk.2) (.slice Ao42 t119.length co42)) (fun _ _ => by trivial)⟩, ⟨by (with_reducible repeat (first | apply zA | apply zB | apply zC)); exact Kd.R_mono (Kd.R_far (p := ⟨gb123, 2, none⟩) (Kd.R_far (p := ⟨gb123, 1, none⟩) (Kd.R_far (p := ⟨gb123, 0, none⟩) (Kd.R_types HO_qc.out BK123.out (by decide)) (fun _ hk => hk.2) (.slice Ao39 t115.length co39)) (fun _ hk => hk.2) (.int .i64 t118)) (fun _ hk => hk.2) (.slice Ao42 t119.length co42)) (fun _ _ => by trivial)⟩, ⟨by (with_reducible repeat (first | apply zA | apply zB | apply zC)); exact Kd.R_mono (Kd.R_far (p := ⟨gb123, 2, none⟩) (Kd.R_far (p := ⟨gb123, 1, none⟩) (Kd.R_far (p := ⟨gb123, 0, none⟩) (Kd.R_types HO117.out BK123.out (by decide)) (fun _ hk => hk.2) (.slice Ao39 t115.length co39)) (fun _ hk => hk.2) (.int .i64 t118)) (fun _ hk => hk.2) (.slice Ao42 t119.length co42)) (fun _ _ => by trivial)⟩, ⟨by (with_reducible repeat (first | apply zA | apply zB | apply zC)); exact Kd.R_mono (Kd.R_far (p := ⟨gb123, 2, none⟩) (Kd.R_far (p := ⟨gb123, 1, none⟩) (Kd.R_far (p := ⟨gb123, 0, none⟩) (Kd.R_types HO121.out BK123.out (by decide)) (fun _ hk => hk.2) (.slice Ao39 t115.length co39)) (fun _ hk => hk.2) (.int .i64 t118)) (fun _ hk => hk.2) (.slice Ao42 t119.length co42)) (fun _ _ => by trivial)⟩, ⟨by (with_reducible repeat (first | refine zD ?_ _ | refine zE ?_ | refine zF ?_ _)); refine blk_far ?_ NB108_123.out _; (with_reducible repeat (first | refine zD ?_ _ | refine zE ?_ | refine zF ?_ _)); refine blk_far ?_ NB108_123.out _; (with_reducible repeat (first | refine zD ?_ _ | refine zE ?_ | refine zF ?_ _)); refine blk_far ?_ NB108_123.out _; (with_reducible repeat (first | refine zD ?_ _ | refine zE ?_ | refine zF ?_ _)); exact BK108.out⟩, ⟨by (with_reducible repeat (first | refine zD ?_ _ | refine zE ?_ | refine zF ?_ _)); refine blk_put (cs := #[.slice Ao39 t115.length co39, .int .i64 t118, .slice none 0 0]) ?_ 2 _ rfl; (with_reducible repeat (first | refine zD ?_ _ | refine zE ?_ | refine zF ?_ _)); refine blk_put (cs := #[.slice Ao39 t115.length co39, .int .i64 0, .slice none 0 0]) ?_ 1 _ rfl; (with_reducible repeat (first | refine zD ?_ _ | refine zE ?_ | refine zF ?_ _)); refine blk_put (cs := #[.slice none 0 0, .int .i64 0, .slice none 0 0]) ?_ 0 _ rfl; (with_reducible repeat (first | refine zD ?_ _ | refine zE ?_ | refine zF ?_ _)); exact BK123.out⟩, ⟨by repeat (first | (with_reducible first | exact HB.out | apply zG | apply zH | apply zI | refine zL ?_ GE108.out | refine zL ?_ GE123.out) | exact HB.out)⟩⟩
         case rest =>
          clear HC32
          try clear c1
          try clear p1
          try clear q1
          try clear hx1
          try clear c2
          try clear p2
          try clear c3
          try clear c4
          try clear c6
          try clear c9
          try clear c9b0
          try clear c11
          try clear c11b0
          try clear p11
          try clear q11
          try clear hx11
          try clear p12
          try clear q12
          try clear hx12
          try clear c13
          try clear c15
          try clear c19
          try clear c19b0
          try clear c19b1
          try clear c26
          try clear c27
          try clear c27b0
          try clear c28
          try clear c28b0
          try clear c31
          try clear c31b0
          try clear c31b1
          try clear c34
          try clear c44
          try clear c44b0
          try clear c44b1
          try clear c48
          try clear hcz49_0
          try clear hcz49_1
          try clear hcz49_2
          try clear hcz50_0
          try clear hcz50_1
          try clear hcz50_2
          try clear hcz7_0
          try clear hcz7_1
          try clear hcz7_2
          try clear hfz49_0
          try clear hfz49_1
          try clear hfz49_2
          try clear hfz50_0
          try clear hfz50_1
          try clear hfz50_2
          try clear hfz7_0
          try clear hfz7_1
          try clear hfz7_2
          try clear hx110_0
          try clear hx110_1
          try clear hx110_2
          try clear hx112_0
          try clear hx112_1
          try clear hx112_2
          try clear hx114_0
          try clear hx114_1
          try clear hx114_2
          try clear hx125_0
          try clear hx125_1
          try clear hx125_2
          try clear p1
          try clear p11
          try clear p110
          try clear p112
          try clear p114
          try clear p125
          try clear p2
          try clear q1
          try clear q11
          try clear q110
          try clear q112
          try clear q114
          try clear q125
          obtain ⟨kq, x6_31, xqa_31, xqb_31, xqc_31, uqa, uqc, HA, HJ31, HO_6, HO_qa, HO_qc, HO_qd, HO_qe, BK108, BK123, HB⟩ := hcut
          cases kq with
          | zero => exact absurd HA.out (by simp [tollbarlaw17_TreeGrows.j2])
          | succ kj31 =>
           have H := HA.out
           clear HA
           simp only [tollbarlaw17_TreeGrows.j2] at H
           have HC51 := zK H
           clear H
           go_upto_region 19 with (fail)
           go_cut [71] (fun v71 wc => ∃ (kq : Nat) (x71_50 : Bool), v71 = .bool x71_50 ∧ Aside0 (tollbarlaw17_TreeGrows.j3 kq l0 l1 x6_31 x7_1 x71_50 xqa_31 xqb_31 xqc_31 = some r) ∧ Aside0 (kq ≤ kj31) ∧ Aside0 (Kd.R k50 50 wc w.heap.size (fun _ => True) u6 x6_31) ∧ Aside0 (Kd.R k64 64 wc w.heap.size (fun _ => True) uqa xqa_31) ∧ Aside0 (Kd.R (Kd.int .i64) 3 wc w.heap.size (fun _ => True) uqc xqc_31) ∧ Aside0 (Kd.R k64 64 wc w.heap.size (fun _ => True) (.slice Ao39 t115.length co39) t115) ∧ Aside0 (Kd.R (Kd.int .i64) 3 wc w.heap.size (fun _ => True) (.slice Ao42 t119.length co42) t119) ∧ Aside0 (wc.heap[gb108]? = some (.cells #[uqa, .int .i64 xqb_31, uqc] 25 (0, 0))) ∧ Aside0 (wc.heap[gb123]? = some (.cells #[(.slice Ao39 t115.length co39), .int .i64 t118, (.slice Ao42 t119.length co42)] 25 (0, 0))) ∧ Aside0 (Below w.heap.size w wc))
           case first =>
            have H := HC51.out
            clear HC51
            by_cases c52 : x7_1 < (l1.length : Int)
            ·rw [if_pos c52] at H
             have c52b0 : decide (x7_1 < (l1.length : Int)) = true := decide_eq_true c52
             clear c52
             (first | rw [c52b0] | (simp only [i64_w, i32_w]; rw [c52b0]) | skip)
             have H' := zK H
             clear H
             obtain ⟨Ao53, co53, eo53⟩ := yE HO_6.out
             subst eo53
             go_wp2
             go_meet
             case rel => exact ⟨_, (decide ((x6_31.length : Int) > 0)), zz, H', ⟨by have := HK1.out; have := HJ9.out; have := HJ31.out; first | omega | exact Nat.le_refl _⟩, ⟨by (with_reducible repeat (first | apply zA | apply zB | apply zC)); exact HO_6.out⟩, ⟨by (with_reducible repeat (first | apply zA | apply zB | apply zC)); exact HO_qa.out⟩, ⟨by (with_reducible repeat (first | apply zA | apply zB | apply zC)); exact HO_qc.out⟩, ⟨by (with_reducible repeat (first | apply zA | apply zB | apply zC)); exact HO_qd.out⟩, ⟨by (with_reducible repeat (first | apply zA | apply zB | apply zC)); exact HO_qe.out⟩, ⟨by (with_reducible repeat (first | refine zD ?_ _ | refine zE ?_ | refine zF ?_ _)); exact BK108.out⟩, ⟨by (with_reducible repeat (first | refine zD ?_ _ | refine zE ?_ | refine zF ?_ _)); exact BK123.out⟩, ⟨by repeat (first | (with_reducible first | exact HB.out | apply zG | apply zH | apply zI | refine zL ?_ GE108.out | refine zL ?_ GE123.out) | exact HB.out)⟩⟩
            ·rw [if_neg c52] at H
             have c52b0 : decide (x7_1 < (l1.length : Int)) = false := decide_eq_false c52
             clear c52
             (first | rw [c52b0] | (simp only [i64_w, i32_w]; rw [c52b0]) | skip)
             have H' := zK H
             clear H
             go_wp2
             go_meet
             case rel => exact ⟨_, (false), zz, H', ⟨by have := HK1.out; have := HJ9.out; have := HJ31.out; first | omega | exact Nat.le_refl _⟩, ⟨by (with_reducible repeat (first | apply zA | apply zB | apply zC)); exact HO_6.out⟩, ⟨by (with_reducible repeat (first | apply zA | apply zB | apply zC)); exact HO_qa.out⟩, ⟨by (with_reducible repeat (first | apply zA | apply zB | apply zC)); exact HO_qc.out⟩, ⟨by (with_reducible repeat (first | apply zA | apply zB | apply zC)); exact HO_qd.out⟩, ⟨by (with_reducible repeat (first | apply zA | apply zB | apply zC)); exact HO_qe.out⟩, ⟨by (with_reducible repeat (first | refine zD ?_ _ | refine zE ?_ | refine zF ?_ _)); exact BK108.out⟩, ⟨by (with_reducible repeat (first | refine zD ?_ _ | refine zE ?_ | refine zF ?_ _)); exact BK123.out⟩, ⟨by repeat (first | (with_reducible first | exact HB.out | apply zG | apply zH | apply zI | refine zL ?_ GE108.out | refine zL ?_ GE123.out) | exact HB.out)⟩⟩
           case rest =>
            clear HC51
            try clear c1
            try clear p1
            try clear q1
            try clear hx1
            try clear c2
            try clear p2
            try clear c3
            try clear c4
            try clear c5
            try clear c6
            try clear c9
            try clear c9b0
            try clear c11
            try clear c11b0
            try clear p11
            try clear q11
            try clear hx11
            try clear p12
            try clear q12
            try clear hx12
            try clear c13
            try clear c15
            try clear c19
            try clear c19b0
            try clear c19b1
            try clear c26
            try clear c27
            try clear c27b0
            try clear c28
            try clear c28b0
            try clear c31
            try clear c31b0
            try clear c31b1
            try clear c34
            try clear c44
            try clear c44b0
            try clear c44b1
            try clear c48
            try clear c52
            try clear c52b0
            try clear hcz49_0
            try clear hcz49_1
            try clear hcz49_2
            try clear hcz50_0
            try clear hcz50_1
            try clear hcz50_2
            try clear hcz7_0
            try clear hcz7_1
            try clear hcz7_2
            try clear hfz49_0
            try clear hfz49_1
            try clear hfz49_2
            try clear hfz50_0
            try clear hfz50_1
            try clear hfz50_2
            try clear hfz7_0
            try clear hfz7_1
            try clear hfz7_2
            try clear hx110_0
            try clear hx110_1
            try clear hx110_2
            try clear hx112_0
            try clear hx112_1
            try clear hx112_2
            try clear hx114_0
            try clear hx114_1
            try clear hx114_2
            try clear hx125_0
            try clear hx125_1
            try clear hx125_2
            try clear p1
            try clear p11
            try clear p110
            try clear p112
            try clear p114
            try clear p12
            try clear p125
            try clear p2
            try clear q1
            try clear q11
            try clear q110
            try clear q112
            try clear q114
            try clear q12
            try clear q125
            obtain ⟨kq, x71_50, rfl, HA, HJ50, HO_6, HO_qa, HO_qc, HO_qd, HO_qe, BK108, BK123, HB⟩ := hcut
            cases kq with
            | zero => exact absurd HA.out (by simp [tollbarlaw17_TreeGrows.j3])
            | succ kj50 =>
             have H := HA.out
             clear HA
             simp only [tollbarlaw17_TreeGrows.j3] at H
             have HC54 := zK H
             clear H
             go_upto_if 71 with (fail)
             go_cut [6] (fun v6 wc => ∃ (kq : Nat) (x6_53 : List (S50)) (xqa_53 : List (S64)) (xqb_53 : Int) (xqc_53 : List Int) (uqa : Value) (uqc : Value), Aside0 (tollbarlaw17_TreeGrows.j4 kq l0 l1 x6_53 x7_1 xqa_53 xqb_53 xqc_53 = some r) ∧ Aside0 (kq ≤ kj50) ∧ Aside0 (Kd.R k50 50 wc w.heap.size (fun _ => True) v6 x6_53) ∧ Aside0 (Kd.R k64 64 wc w.heap.size (fun _ => True) uqa xqa_53) ∧ Aside0 (Kd.R (Kd.int .i64) 3 wc w.heap.size (fun _ => True) uqc xqc_53) ∧ Aside0 (Kd.R k64 64 wc w.heap.size (fun _ => True) (.slice Ao39 t115.length co39) t115) ∧ Aside0 (Kd.R (Kd.int .i64) 3 wc w.heap.size (fun _ => True) (.slice Ao42 t119.length co42) t119) ∧ Aside0 (wc.heap[gb108]? = some (.cells #[uqa, .int .i64 xqb_53, uqc] 25 (0, 0))) ∧ Aside0 (wc.heap[gb123]? = some (.cells #[(.slice Ao39 t115.length co39), .int .i64 t118, (.slice Ao42 t119.length co42)] 25 (0, 0))) ∧ Aside0 (Below w.heap.size w wc))
             case first =>
              have H := HC54.out
              clear HC54
              by_cases c55 : x71_50 = true
              ·subst c55
               have H1 : (if 0 ≤ x7_1 then (if x7_1 < (l1.length : Int) then (if (x6_31.length : Int) = 0 then (none) else (if 0 ≤ (Int.tmod (Go.bits .and .i64 (rd l1 x7_1) 31) (x6_31.length : Int)) then (if (Int.tmod (Go.bits .and .i64 (rd l1 x7_1) 31) (x6_31.length : Int)) < (x6_31.length : Int) then ((tree_Delete.f xqa_31 xqb_31 xqc_31 ((rd_T50 x6_31 (Int.tmod (Go.bits .and .i64 (rd l1 x7_1) 31) (x6_31.length : Int))).f0.f0) ((rd_T50 x6_31 (Int.tmod (Go.bits .and .i64 (rd l1 x7_1) 31) (x6_31.length : Int))).f0.f1) ((rd_T50 x6_31 (Int.tmod (Go.bits .and .i64 (rd l1 x7_1) 31) (x6_31.length : Int))).f1)).bind fun bt131 => ((tollbarlaw0_Num.f bt131.2.2.2).bind fun t140 => (if t140 = 0 then ((tollbarref17_Without.f kj50 x6_31 ((rd_T50 x6_31 (Int.tmod (Go.bits .and .i64 (rd l1 x7_1) 31) (x6_31.length : Int))).f0.f0) ((rd_T50 x6_31 (Int.tmod (Go.bits .and .i64 (rd l1 x7_1) 31) (x6_31.length : Int))).f0.f1) ((rd_T50 x6_31 (Int.tmod (Go.bits .and .i64 (rd l1 x7_1) 31) (x6_31.length : Int))).f1)).bind fun t142 => (tollbarlaw17_TreeGrows.j4 kj50 l0 l1 t142 x7_1 bt131.1 bt131.2.1 bt131.2.2.1)) else (some false)))) else (none)) else (none))) else (none)) else (none)) = some r := by rw [if_pos rfl] at H; exact H
               clear H
               have H := H1
               clear H1
               by_cases c56 : 0 ≤ x7_1
               ·rw [if_pos c56] at H
                have c56b0 : decide (0 ≤ x7_1) = true := decide_eq_true c56
                clear c56
                (first | rw [c56b0] | (simp only [i64_w, i32_w]; rw [c56b0]) | skip)
                by_cases c57 : x7_1 < (l1.length : Int)
                ·rw [if_pos c57] at H
                 have c57b0 : decide (x7_1 < (l1.length : Int)) = true := decide_eq_true c57
                 clear c57
                 by_cases c58 : (x6_31.length : Int) = 0
                 ·rw [if_pos c58] at H
                  exact absurd H (by simp)
                 ·rw [if_neg c58] at H
                  have c58b0 : ((x6_31.length : Int) == 0) = false := yK.mpr c58
                  have c58b1 : ((x6_31.length : Int) != 0) = true := yL.mpr c58
                  have c58b2 : ¬ (x6_31 = []) := fun h_ => c58 (by rw [h_]; rfl)
                  obtain ⟨ji59, hji59⟩ : ∃ j_ : Int, (Int.tmod (Go.bits .and .i64 (rd l1 x7_1) 31) (x6_31.length : Int)) = j_ := ⟨_, rfl⟩
                  replace H : (if 0 ≤ (ji59) then (if (ji59) < (x6_31.length : Int) then ((tree_Delete.f xqa_31 xqb_31 xqc_31 ((rd_T50 x6_31 (ji59)).f0.f0) ((rd_T50 x6_31 (ji59)).f0.f1) ((rd_T50 x6_31 (ji59)).f1)).bind fun bt131 => ((tollbarlaw0_Num.f bt131.2.2.2).bind fun t140 => (if t140 = 0 then ((tollbarref17_Without.f kj50 x6_31 ((rd_T50 x6_31 (ji59)).f0.f0) ((rd_T50 x6_31 (ji59)).f0.f1) ((rd_T50 x6_31 (ji59)).f1)).bind fun t142 => (tollbarlaw17_TreeGrows.j4 kj50 l0 l1 t142 x7_1 bt131.1 bt131.2.1 bt131.2.2.1)) else (some false)))) else (none)) else (none)) = some r := by first | (rw [hji59] at H; exact H) | (simp only [hji59] at H ⊢; exact H)
                  by_cases c60 : 0 ≤ (ji59)
                  ·rw [if_pos c60] at H
                   have c60b0 : decide (0 ≤ (ji59)) = true := decide_eq_true c60
                   clear c60
                   by_cases c61 : (ji59) < (x6_31.length : Int)
                   ·rw [if_pos c61] at H
                    have c61b0 : decide ((ji59) < (x6_31.length : Int)) = true := decide_eq_true c61
                    clear c61
                    replace H := yH.mp H
                    obtain ⟨⟨t131, t134, t135, t138⟩, A620, H⟩ := H
                    replace H : ((tollbarlaw0_Num.f t138).bind fun t140 => (if t140 = 0 then ((tollbarref17_Without.f kj50 x6_31 ((rd_T50 x6_31 (ji59)).f0.f0) ((rd_T50 x6_31 (ji59)).f0.f1) ((rd_T50 x6_31 (ji59)).f1)).bind fun t142 => (tollbarlaw17_TreeGrows.j4 kj50 l0 l1 t142 x7_1 t131 t134 t135)) else (some false))) = some r := H
                    have A62 := zK A620
                    clear A620
                    replace H := yH.mp H
                    obtain ⟨t140, A630, H⟩ := H
                    replace H : (if t140 = 0 then ((tollbarref17_Without.f kj50 x6_31 ((rd_T50 x6_31 (ji59)).f0.f0) ((rd_T50 x6_31 (ji59)).f0.f1) ((rd_T50 x6_31 (ji59)).f1)).bind fun t142 => (tollbarlaw17_TreeGrows.j4 kj50 l0 l1 t142 x7_1 t131 t134 t135)) else (some false)) = some r := H
                    have A63 := zK A630
                    clear A630
                    by_cases c64 : t140 = 0
                    ·rw [if_pos c64] at H
                     have c64b0 : (t140 == 0) = true := yI.mpr c64
                     have c64b1 : (t140 != 0) = false := yJ.mpr c64
                     clear c64
                     replace H := yH.mp H
                     obtain ⟨t142, A650, H⟩ := H
                     replace H : (tollbarlaw17_TreeGrows.j4 kj50 l0 l1 t142 x7_1 t131 t134 t135) = some r := H
                     have A65 := zK A650
                     clear A650
                     have H' := zK H
                     clear H
                     have p129 : 0 ≤ (x7_1 : Int) := of_decide_eq_true (by first | (with_reducible assumption) | assumption)
                     have q129 : x7_1 < (l1.length : Int) := of_decide_eq_true (by first | (with_reducible assumption) | assumption)
                     obtain ⟨ad129, e129, hx129_0⟩ := Kd.at_int HR1.out x7_1 p129 q129
                     cases e129
                     replace hx129_0 := (HB.out.cell (zJ w _ hx129_0)).trans hx129_0
                     replace p129 := eq_true p129
                     replace q129 := eq_true q129
                     obtain ⟨Ao66, co66, eo66⟩ := yE HO_6.out
                     subst eo66
                     obtain ⟨Ao67, co67, eo67⟩ := yE HO_qa.out
                     subst eo67
                     obtain ⟨Ao68, co68, eo68⟩ := yE HO_qc.out
                     subst eo68
                     try go_wp2
                     have n0_ := zK (zC HO_6.out)
                     have n1_ := zK (zC HO_qa.out)
                     have n2_ := zK (zC HO_qc.out)
                     have n3_ := zK (zC HO_qd.out)
                     have n4_ := zK (zC HO_qe.out)
                     have n5_ := zK (zE BK108.out)
                     have n6_ := zK (zE BK123.out)
                     have n7_ := zK (zI HB.out)
                     clear HO_6
                     clear HO_qa
                     clear HO_qc
                     clear HO_qd
                     clear HO_qe
                     clear BK108
                     clear BK123
                     clear HB
                     have HO_6 := n0_
                     have HO_qa := n1_
                     have HO_qc := n2_
                     have HO_qd := n3_
                     have HO_qe := n4_
                     have BK108 := n5_
                     have BK123 := n6_
                     have HB := n7_
                     clear n0_ n1_ n2_ n3_ n4_ n5_ n6_ n7_
                     have p130 : 0 ≤ ((ji59) : Int) := of_decide_eq_true (by first | (with_reducible assumption) | assumption)
                     have q130 : (ji59) < (x6_31.length : Int) := of_decide_eq_true (by first | (with_reducible assumption) | assumption)
                     obtain ⟨ad130, e130, hx130_0, hx130_1, hx130_2⟩ := at_T50 (zX HO_6.out).2.2 (ji59) p130 q130
                     cases e130
                     replace p130 := eq_true p130
                     replace q130 := eq_true q130
                     refine start_ (n := 12) (S := fun w' => w'.cell? ⟨gb108, 0, none⟩ = some (.slice Ao67 xqa_31.length co67) ∧ w'.cell? ⟨gb108, 1, none⟩ = some (.int .i64 xqb_31) ∧ w'.cell? ⟨gb108, 2, none⟩ = some (.slice Ao68 xqc_31.length co68) ∧ w'.cell? (ad130.add (((ji59)).toNat * 3)) = some (.int .i64 ((rd_T50 x6_31 (ji59)).f0.f0)) ∧ w'.cell? ⟨(ad130.add (((ji59)).toNat * 3)).block, (ad130.add (((ji59)).toNat * 3)).off + 1, none⟩ = some (.int .i64 ((rd_T50 x6_31 (ji59)).f0.f1)) ∧ w'.cell? ⟨(ad130.add (((ji59)).toNat * 3)).block, (ad130.add (((ji59)).toNat * 3)).off + 2, none⟩ = some (.int .i64 ((rd_T50 x6_31 (ji59)).f1))) (ds := []) #[false, false, false, false, false, false, false, false, false, false, false, false] (by kernel_rfl) rfl rfl ⟨(zQ BK108.out 0).trans rfl, (zQ BK108.out 1).trans rfl, (zQ BK108.out 2).trans rfl, hx130_0, hx130_1, hx130_2⟩ (fun hHeld => ?_); refine with_tabW tollbarlaw17_TreeGrows.tab21 tollbarlaw17_TreeGrows.bits21 (fun HT_ HW_ => ?_)
                     generalize wc.drew = w69 at HO_6 HO_qa HO_qc HO_qd HO_qe BK108 BK123 HB hx130_0 hx130_1 hx130_2 hHeld ⊢
                     refine pure_ (i := 1) (N := some 82) (v := ?_) (a' := ?_) #[false, true, false, false, false, false, false, false, false, false, false, false] rfl rfl (any_of HT_.out (by kernel_rfl)) (fun _ _ _ h => h) (Or.inl ⟨by rfl, ?_⟩) ?_ ?_
                     rotate_left
                     ·intro w'
                      go_simp
                      with_reducible rfl
                     rotate_left
                     ·simp only [Act.put, zY, zZ, yA, i64_w, i32_w]
                      rfl
                     refine pure_ (i := 2) (N := some 83) (v := ?_) (a' := ?_) #[false, true, true, false, false, false, false, false, false, false, false, false] rfl rfl (any_of HT_.out (by kernel_rfl)) (fun _ _ _ h => h) (Or.inl ⟨by rfl, ?_⟩) ?_ ?_
                     rotate_left
                     ·intro w'
                      go_simp
                      with_reducible rfl
                     rotate_left
                     ·simp only [Act.put, zY, zZ, yA, i64_w, i32_w]
                      rfl
                     refine pure_ (i := 3) (N := some 84) (v := ?_) (a' := ?_) #[false, true, true, true, false, false, false, false, false, false, false, false] rfl rfl (any_of HT_.out (by kernel_rfl)) (fun _ _ _ h => h) (Or.inl ⟨by rfl, ?_⟩) ?_ ?_
                     rotate_left
                     ·intro w'
                      go_simp
                      with_reducible rfl
                     rotate_left
                     ·simp only [Act.put, zY, zZ, yA, i64_w, i32_w]
                      rfl
                     refine take_ (i := 0) (N := some 81) (v := ?_) (a' := ?_) #[true, true, true, true, false, false, false, false, false, false, false, false] rfl rfl (take_ofW HT_.out HW_.out (by kernel_rfl)) (fun _ _ _ h => h) (Or.inl ⟨by rfl, ?_⟩) hHeld ?_ ?_
                     rotate_left
                     ·rintro w' ⟨s0, s1, s2, s3, s4, s5⟩
                      go_simp
                      with_reducible rfl
                     rotate_left
                     ·simp only [Act.put, zY, zZ, yA, i64_w, i32_w]
                      rfl
                     refine take_ (i := 4) (N := some 85) (v := ?_) (a' := ?_) #[true, true, true, true, true, false, false, false, false, false, false, false] rfl rfl (take_ofW HT_.out HW_.out (by kernel_rfl)) (fun _ _ _ h => h) (Or.inl ⟨by rfl, ?_⟩) hHeld ?_ ?_
                     rotate_left
                     ·rintro w' ⟨s0, s1, s2, s3, s4, s5⟩
                      go_simp
                      with_reducible rfl
                     rotate_left
                     ·simp only [Act.put, zY, zZ, yA, i64_w, i32_w]
                      rfl
                     refine join_ (σ := Value × Value × Nat) 2 #[true, true, true, true, true, true, true, true, true, true, false, false] (fun s_ => [(86, .tuple #[.agg #[s_.1, .int .i64 t134, s_.2.1], .int .i64 t138]), (12, .pointer (some ⟨s_.2.2, 0, none⟩)), (80, .tuple #[.agg #[s_.1, .int .i64 t134, s_.2.1], .int .i64 t138]), (87, .agg #[s_.1, .int .i64 t134, s_.2.1]), (88, .int .i64 t138)]) (fun s_ w' => (w'.cell? ⟨gb108, 0, none⟩ = some (.slice Ao67 xqa_31.length co67) ∧ w'.cell? ⟨gb108, 1, none⟩ = some (.int .i64 xqb_31) ∧ w'.cell? ⟨gb108, 2, none⟩ = some (.slice Ao68 xqc_31.length co68) ∧ w'.cell? (ad130.add (((ji59)).toNat * 3)) = some (.int .i64 ((rd_T50 x6_31 (ji59)).f0.f0)) ∧ w'.cell? ⟨(ad130.add (((ji59)).toNat * 3)).block, (ad130.add (((ji59)).toNat * 3)).off + 1, none⟩ = some (.int .i64 ((rd_T50 x6_31 (ji59)).f0.f1)) ∧ w'.cell? ⟨(ad130.add (((ji59)).toNat * 3)).block, (ad130.add (((ji59)).toNat * 3)).off + 2, none⟩ = some (.int .i64 ((rd_T50 x6_31 (ji59)).f1))) ∧ (Kd.R k64 64 w' w.heap.size (fun k_ => some k_ ≠ (.slice Ao67 xqa_31.length co67 : Value).ownBlock ∧ some k_ ≠ (.slice Ao39 t115.length co39 : Value).ownBlock) s_.1 t131) ∧ (Kd.R (Kd.int .i64) 3 w' w.heap.size (fun k_ => some k_ ≠ (.slice Ao68 xqc_31.length co68 : Value).ownBlock ∧ some k_ ≠ (.slice Ao42 t119.length co42 : Value).ownBlock) s_.2.1 t135) ∧ (Kd.R k64 64 w' w.heap.size (fun k_ => some k_ ≠ (s_.1 : Value).ownBlock ∧ True) (.slice Ao67 xqa_31.length co67) xqa_31) ∧ (Kd.R (Kd.int .i64) 3 w' w.heap.size (fun k_ => some k_ ≠ (s_.2.1 : Value).ownBlock ∧ True) (.slice Ao68 xqc_31.length co68) xqc_31) ∧ (Kd.R k64 64 w' w.heap.size (fun k_ => some k_ ≠ (s_.1 : Value).ownBlock ∧ True) (.slice Ao39 t115.length co39) t115) ∧ (Kd.R (Kd.int .i64) 3 w' w.heap.size (fun k_ => some k_ ≠ (s_.2.1 : Value).ownBlock ∧ True) (.slice Ao42 t119.length co42) t119) ∧ (Kd.R k50 50 w' w.heap.size (fun _ => True) (.slice (some ad130) x6_31.length co66) x6_31) ∧ (w'.heap[gb108]? = some (.cells #[.slice Ao67 xqa_31.length co67, .int .i64 xqb_31, .slice Ao68 xqc_31.length co68] 25 (0, 0))) ∧ (w'.heap[gb123]? = some (.cells #[.slice Ao39 t115.length co39, .int .i64 t118, .slice Ao42 t119.length co42] 25 (0, 0))) ∧ (w'.heap[s_.2.2]? = some (.cells #[.slice none 0 0, .int .i64 0, .slice none 0 0] 25 (0, 0))) ∧ (w.heap.size ≤ s_.2.2) ∧ (w.heap.size ≤ s_.2.2) ∧ (gb108 ≠ s_.2.2) ∧ (s_.2.2 ≠ gb108) ∧ (gb123 ≠ s_.2.2) ∧ (s_.2.2 ≠ gb123) ∧ (Below w.heap.size w w')) ?_ ?_
                     rotate_left
                     ·intro hCont
                      refine two_ (i := 5) (j := 9) (Ni := some 86) (Nj := some 12) #[true, true, true, true, true, true, false, false, false, false, false, false] #[true, true, true, true, true, false, false, false, false, true, false, false] rfl rfl rfl rfl (two_of HT_.out (by kernel_rfl)) (by decide) (by decide) (fun K hK => ?_) (fun K hK => ?_)
                      ·skip
                       refine goes_ Try.func30 (by kernel_rfl) rfl #[.agg #[.slice Ao67 xqa_31.length co67, .int .i64 xqb_31, .slice Ao68 xqc_31.length co68], .agg #[.int .i64 ((rd_T50 x6_31 (ji59)).f0.f0), .int .i64 ((rd_T50 x6_31 (ji59)).f0.f1), .int .i64 ((rd_T50 x6_31 (ji59)).f1)]] (by rfl) rfl rfl (by (try simp only [List.map_toArray, List.map_cons, List.map_nil]); first | done | (simp only [hji59]; rfl) | rfl | (simp only [List.length_drop, List.length_take]; rfl)) ?_
                       with_reducible refine (tree_Delete.calls _ _ xqa_31 xqb_31 _ _ xqc_31 ((rd_T50 x6_31 (ji59)).f0.f0) ((rd_T50 x6_31 (ji59)).f0.f1) ((rd_T50 x6_31 (ji59)).f1) t131 t134 t135 t138 _ ?side1 ?side2 ?side3 ?side4 A62.out).mono ?_
                       (case side1 => exact zc (zX HO_qa.out).2.2)
                       (case side2 => exact (zX HO_qa.out).2.1)
                       (case side3 => exact zc (zX HO_qc.out).2.2)
                       (case side4 => exact (zX HO_qc.out).2.1)
                       rintro e w70 ⟨v132, v136, rfl, ho0, ho1, hb⟩
                       have HS3_ := (hb.cell (zJ _ _ (hHeld.2.2.2.1))).trans (hHeld.2.2.2.1)
                       have HS4_ := (hb.cell (zJ _ _ (hHeld.2.2.2.2.1))).trans (hHeld.2.2.2.2.1)
                       have HS5_ := (hb.cell (zJ _ _ (hHeld.2.2.2.2.2))).trans (hHeld.2.2.2.2.2)
                       refine ⟨_, rfl, ?_⟩
                       have n0_ := zK (zO (zr HO_6.out) hb)
                       have n1_ := zK (yC (zr HO_qa.out) (Kd.R_base ho0) hb)
                       have n2_ := zK (yC (zr HO_qc.out) (Kd.R_base ho1) hb)
                       have n3_ := zK (yC (zr HO_qd.out) (Kd.R_base ho0) hb)
                       have n4_ := zK (yC (zr HO_qe.out) (Kd.R_base ho1) hb)
                       have n5_ := zK (zV (zW (zW ho0 (yB (zr HO_qa.out))) (yB (zr HO_qd.out))) (yG (zl HB.out)))
                       have n6_ := zK (zV (zW (zW ho1 (yB (zr HO_qc.out))) (yB (zr HO_qe.out))) (yG (zl HB.out)))
                       have n7_ := zK (zP (g := gb108) (o := .cells #[.slice Ao67 xqa_31.length co67, .int .i64 xqb_31, .slice Ao68 xqc_31.length co68] 25 (0, 0)) (zb BK108.out) hb)
                       have n8_ := zK (zP (g := gb123) (o := .cells #[.slice Ao39 t115.length co39, .int .i64 t118, .slice Ao42 t119.length co42] 25 (0, 0)) (zb BK123.out) hb)
                       have n9_ := zK (yF (zl HB.out) hb)
                       clear HO_6
                       clear HO_qa
                       clear HO_qc
                       clear HO_qd
                       clear HO_qe
                       clear BK108
                       clear BK123
                       clear HB
                       have HO_6 := n0_
                       have HO_qa := n1_
                       have HO_qc := n2_
                       have HO_qd := n3_
                       have HO_qe := n4_
                       have HO133 := n5_
                       have HO137 := n6_
                       have BK108 := n7_
                       have BK123 := n8_
                       have HB := n9_
                       clear n0_ n1_ n2_ n3_ n4_ n5_ n6_ n7_ n8_ n9_
                       (try clear hb)
                       (try clear hb2)
                       (try clear hk)
                       (try clear hi)
                       (try clear ho0)
                       (try clear ho1)
                       refine hK.out _ _ ⟨(zQ BK108.out 0).trans rfl, (zQ BK108.out 1).trans rfl, (zQ BK108.out 2).trans rfl, HS3_, HS4_, HS5_⟩ (fun hHeld => ?_)
                       clear hK K
                       refine norm_ (a' := ?_) ?_ ?_
                       rotate_left
                       ·show Act.put _ (some 86) _ = _
                        simp only [Act.put, zY, zZ, yA, i64_w, i32_w]
                        rfl
                       refine pure_ (i := 6) (N := some 80) (v := ?_) (a' := ?_) #[true, true, true, true, true, true, true, false, false, false, false, false] rfl rfl (any_of HT_.out (by kernel_rfl)) (fun _ _ _ h => h) (Or.inl ⟨by rfl, ?_⟩) ?_ ?_
                       rotate_left
                       ·intro w'
                        go_simp
                        with_reducible rfl
                       rotate_left
                       ·simp only [Act.put, zY, zZ, yA, i64_w, i32_w]
                        rfl
                       refine pure_ (i := 7) (N := some 87) (v := ?_) (a' := ?_) #[true, true, true, true, true, true, true, true, false, false, false, false] rfl rfl (any_of HT_.out (by kernel_rfl)) (fun _ _ _ h => h) (Or.inl ⟨by rfl, ?_⟩) ?_ ?_
                       rotate_left
                       ·intro w'
                        go_simp
                        with_reducible rfl
                       rotate_left
                       ·simp only [Act.put, zY, zZ, yA, i64_w, i32_w]
                        rfl
                       refine pure_ (i := 8) (N := some 88) (v := ?_) (a' := ?_) #[true, true, true, true, true, true, true, true, true, false, false, false] rfl rfl (any_of HT_.out (by kernel_rfl)) (fun _ _ _ h => h) (Or.inl ⟨by rfl, ?_⟩) ?_ ?_
                       rotate_left
                       ·intro w'
                        go_simp
                        with_reducible rfl
                       rotate_left
                       ·simp only [Act.put, zY, zZ, yA, i64_w, i32_w]
                        rfl
                       refine one_ (i := 9) (N := some 12) #[true, true, true, true, true, true, true, true, true, true, false, false] rfl rfl (one_of HT_.out (by kernel_rfl)) (by decide) (fun K hK => ?_)
                       refine box_step ?hg (N := 12) ?hd (cs := #[.slice none 0 0, .int .i64 0, .slice none 0 0]) (t := 25) ?hr ?_; (case hd => rfl); (case hg => rfl); (case hr => first | (go_simp; done) | (go_simp; rfl))
                       intro gb139 hg w71 hbox hb
                       have HS3_ := (hb.cell (zJ _ _ (hHeld.2.2.2.1))).trans (hHeld.2.2.2.1)
                       have HS4_ := (hb.cell (zJ _ _ (hHeld.2.2.2.2.1))).trans (hHeld.2.2.2.2.1)
                       have HS5_ := (hb.cell (zJ _ _ (hHeld.2.2.2.2.2))).trans (hHeld.2.2.2.2.2)
                       have n0_ := zK (zO (zr HO_6.out) hb)
                       have n1_ := zK (zO (zr HO_qa.out) hb)
                       have n2_ := zK (zO (zr HO_qc.out) hb)
                       have n3_ := zK (zO (zr HO_qd.out) hb)
                       have n4_ := zK (zO (zr HO_qe.out) hb)
                       have n5_ := zK (zO (zr HO133.out) hb)
                       have n6_ := zK (zO (zr HO137.out) hb)
                       have n7_ := zK (zP (g := gb108) (o := .cells #[.slice Ao67 xqa_31.length co67, .int .i64 xqb_31, .slice Ao68 xqc_31.length co68] 25 (0, 0)) (zb BK108.out) hb)
                       have n8_ := zK (zP (g := gb123) (o := .cells #[.slice Ao39 t115.length co39, .int .i64 t118, .slice Ao42 t119.length co42] 25 (0, 0)) (zb BK123.out) hb)
                       have n9_ := zK (yF (zl HB.out) hb)
                       have n10_ := zK (hbox)
                       have n11_ := zK ((by rw [hg]; exact (yG (zl HB.out)) : w.heap.size ≤ gb139))
                       have n12_ := zK ((by rw [hg]; exact (yG (zl HB.out)) : w.heap.size ≤ gb139))
                       have n13_ := zK ((by rw [hg]; exact zN (blk_lt (g := gb108) (o := .cells #[.slice Ao67 xqa_31.length co67, .int .i64 xqb_31, .slice Ao68 xqc_31.length co68] 25 (0, 0)) (zb BK108.out)) : gb108 ≠ gb139))
                       have n14_ := zK ((by rw [hg]; exact Nat.ne_of_gt (blk_lt (g := gb108) (o := .cells #[.slice Ao67 xqa_31.length co67, .int .i64 xqb_31, .slice Ao68 xqc_31.length co68] 25 (0, 0)) (zb BK108.out)) : gb139 ≠ gb108))
                       have n15_ := zK ((by rw [hg]; exact zN (blk_lt (g := gb123) (o := .cells #[.slice Ao39 t115.length co39, .int .i64 t118, .slice Ao42 t119.length co42] 25 (0, 0)) (zb BK123.out)) : gb123 ≠ gb139))
                       have n16_ := zK ((by rw [hg]; exact Nat.ne_of_gt (blk_lt (g := gb123) (o := .cells #[.slice Ao39 t115.length co39, .int .i64 t118, .slice Ao42 t119.length co42] 25 (0, 0)) (zb BK123.out)) : gb139 ≠ gb123))
                       clear HO_6
                       clear HO_qa
                       clear HO_qc
                       clear HO_qd
                       clear HO_qe
                       clear HO133
                       clear HO137
                       clear BK108
                       clear BK123
                       clear HB
                       have HO_6 := n0_
                       have HO_qa := n1_
                       have HO_qc := n2_
                       have HO_qd := n3_
                       have HO_qe := n4_
                       have HO133 := n5_
                       have HO137 := n6_
                       have BK108 := n7_
                       have BK123 := n8_
                       have HB := n9_
                       have BK139 := n10_
                       have GW139 := n11_
                       have GE139 := n12_
                       have NB108_139 := n13_
                       have NB139_108 := n14_
                       have NB123_139 := n15_
                       have NB139_123 := n16_
                       clear n0_ n1_ n2_ n3_ n4_ n5_ n6_ n7_ n8_ n9_ n10_ n11_ n12_ n13_ n14_ n15_ n16_
                       clear hb hbox hg
                       refine hK.out _ _ ⟨(zQ BK108.out 0).trans rfl, (zQ BK108.out 1).trans rfl, (zQ BK108.out 2).trans rfl, HS3_, HS4_, HS5_⟩ (fun hHeld => ?_)
                       clear hK K
                       refine norm_ (a' := ?_) ?_ ?_
                       rotate_left
                       ·show Act.put _ (some 12) _ = _
                        simp only [Act.put, zY, zZ, yA, i64_w, i32_w]
                        rfl
                       exact norm_ (by simp only [putAll, Act.put, zY, zZ, yA]) (hCont (v132, v136, gb139) _ ⟨hHeld, (by (with_reducible repeat (first | apply zA | apply zB | apply zC)); exact Kd.R_mono HO133.out (fun _ hk => ⟨hk.1.2, hk.2⟩)), (by (with_reducible repeat (first | apply zA | apply zB | apply zC)); exact Kd.R_mono HO137.out (fun _ hk => ⟨hk.1.2, hk.2⟩)), (by (with_reducible repeat (first | apply zA | apply zB | apply zC)); exact Kd.R_mono HO_qa.out (fun _ hk => ⟨hk.2, hk.1⟩)), (by (with_reducible repeat (first | apply zA | apply zB | apply zC)); exact Kd.R_mono HO_qc.out (fun _ hk => ⟨hk.2, hk.1⟩)), (by (with_reducible repeat (first | apply zA | apply zB | apply zC)); exact Kd.R_mono HO_qd.out (fun _ hk => ⟨hk.2, hk.1⟩)), (by (with_reducible repeat (first | apply zA | apply zB | apply zC)); exact Kd.R_mono HO_qe.out (fun _ hk => ⟨hk.2, hk.1⟩)), (zr HO_6.out), (zb BK108.out), (zb BK123.out), (zb BK139.out), GW139.out, GE139.out, NB108_139.out, NB139_108.out, NB123_139.out, NB139_123.out, (zl HB.out)⟩)
                      ·skip
                       refine box_step ?hg (N := 12) ?hd (cs := #[.slice none 0 0, .int .i64 0, .slice none 0 0]) (t := 25) ?hr ?_; (case hd => rfl); (case hg => rfl); (case hr => first | (go_simp; done) | (go_simp; rfl))
                       intro gb139 hg w70 hbox hb
                       have HS3_ := (hb.cell (zJ _ _ (hHeld.2.2.2.1))).trans (hHeld.2.2.2.1)
                       have HS4_ := (hb.cell (zJ _ _ (hHeld.2.2.2.2.1))).trans (hHeld.2.2.2.2.1)
                       have HS5_ := (hb.cell (zJ _ _ (hHeld.2.2.2.2.2))).trans (hHeld.2.2.2.2.2)
                       have n0_ := zK (zO (zr HO_6.out) hb)
                       have n1_ := zK (zO (zr HO_qa.out) hb)
                       have n2_ := zK (zO (zr HO_qc.out) hb)
                       have n3_ := zK (zO (zr HO_qd.out) hb)
                       have n4_ := zK (zO (zr HO_qe.out) hb)
                       have n5_ := zK (zP (g := gb108) (o := .cells #[.slice Ao67 xqa_31.length co67, .int .i64 xqb_31, .slice Ao68 xqc_31.length co68] 25 (0, 0)) (zb BK108.out) hb)
                       have n6_ := zK (zP (g := gb123) (o := .cells #[.slice Ao39 t115.length co39, .int .i64 t118, .slice Ao42 t119.length co42] 25 (0, 0)) (zb BK123.out) hb)
                       have n7_ := zK (yF (zl HB.out) hb)
                       have n8_ := zK (hbox)
                       have n9_ := zK ((by rw [hg]; exact (yG (zl HB.out)) : w.heap.size ≤ gb139))
                       have n10_ := zK ((by rw [hg]; exact (yG (zl HB.out)) : w.heap.size ≤ gb139))
                       have n11_ := zK ((by rw [hg]; exact zN (blk_lt (g := gb108) (o := .cells #[.slice Ao67 xqa_31.length co67, .int .i64 xqb_31, .slice Ao68 xqc_31.length co68] 25 (0, 0)) (zb BK108.out)) : gb108 ≠ gb139))
                       have n12_ := zK ((by rw [hg]; exact Nat.ne_of_gt (blk_lt (g := gb108) (o := .cells #[.slice Ao67 xqa_31.length co67, .int .i64 xqb_31, .slice Ao68 xqc_31.length co68] 25 (0, 0)) (zb BK108.out)) : gb139 ≠ gb108))
                       have n13_ := zK ((by rw [hg]; exact zN (blk_lt (g := gb123) (o := .cells #[.slice Ao39 t115.length co39, .int .i64 t118, .slice Ao42 t119.length co42] 25 (0, 0)) (zb BK123.out)) : gb123 ≠ gb139))
                       have n14_ := zK ((by rw [hg]; exact Nat.ne_of_gt (blk_lt (g := gb123) (o := .cells #[.slice Ao39 t115.length co39, .int .i64 t118, .slice Ao42 t119.length co42] 25 (0, 0)) (zb BK123.out)) : gb139 ≠ gb123))
                       clear HO_6
                       clear HO_qa
                       clear HO_qc
                       clear HO_qd
                       clear HO_qe
                       clear BK108
                       clear BK123
                       clear HB
                       have HO_6 := n0_
                       have HO_qa := n1_
                       have HO_qc := n2_
                       have HO_qd := n3_
                       have HO_qe := n4_
                       have BK108 := n5_
                       have BK123 := n6_
                       have HB := n7_
                       have BK139 := n8_
                       have GW139 := n9_
                       have GE139 := n10_
                       have NB108_139 := n11_
                       have NB139_108 := n12_
                       have NB123_139 := n13_
                       have NB139_123 := n14_
                       clear n0_ n1_ n2_ n3_ n4_ n5_ n6_ n7_ n8_ n9_ n10_ n11_ n12_ n13_ n14_
                       clear hb hbox hg
                       refine hK.out _ _ ⟨(zQ BK108.out 0).trans rfl, (zQ BK108.out 1).trans rfl, (zQ BK108.out 2).trans rfl, HS3_, HS4_, HS5_⟩ (fun hHeld => ?_)
                       clear hK K
                       refine norm_ (a' := ?_) ?_ ?_
                       rotate_left
                       ·show Act.put _ (some 12) _ = _
                        simp only [Act.put, zY, zZ, yA, i64_w, i32_w]
                        rfl
                       refine one_ (i := 5) (N := some 86) #[true, true, true, true, true, true, false, false, false, true, false, false] rfl rfl (one_of HT_.out (by kernel_rfl)) (by decide) (fun K hK => ?_)
                       refine goes_ Try.func30 (by kernel_rfl) rfl #[.agg #[.slice Ao67 xqa_31.length co67, .int .i64 xqb_31, .slice Ao68 xqc_31.length co68], .agg #[.int .i64 ((rd_T50 x6_31 (ji59)).f0.f0), .int .i64 ((rd_T50 x6_31 (ji59)).f0.f1), .int .i64 ((rd_T50 x6_31 (ji59)).f1)]] (by rfl) rfl rfl (by (try simp only [List.map_toArray, List.map_cons, List.map_nil]); first | done | (simp only [hji59]; rfl) | rfl | (simp only [List.length_drop, List.length_take]; rfl)) ?_
                       with_reducible refine (tree_Delete.calls _ _ xqa_31 xqb_31 _ _ xqc_31 ((rd_T50 x6_31 (ji59)).f0.f0) ((rd_T50 x6_31 (ji59)).f0.f1) ((rd_T50 x6_31 (ji59)).f1) t131 t134 t135 t138 _ ?side1 ?side2 ?side3 ?side4 A62.out).mono ?_
                       (case side1 => exact zc (zX HO_qa.out).2.2)
                       (case side2 => exact (zX HO_qa.out).2.1)
                       (case side3 => exact zc (zX HO_qc.out).2.2)
                       (case side4 => exact (zX HO_qc.out).2.1)
                       rintro e w71 ⟨v132, v136, rfl, ho0, ho1, hb⟩
                       have HS3_ := (hb.cell (zJ _ _ (hHeld.2.2.2.1))).trans (hHeld.2.2.2.1)
                       have HS4_ := (hb.cell (zJ _ _ (hHeld.2.2.2.2.1))).trans (hHeld.2.2.2.2.1)
                       have HS5_ := (hb.cell (zJ _ _ (hHeld.2.2.2.2.2))).trans (hHeld.2.2.2.2.2)
                       refine ⟨_, rfl, ?_⟩
                       have n0_ := zK (zO (zr HO_6.out) hb)
                       have n1_ := zK (yC (zr HO_qa.out) (Kd.R_base ho0) hb)
                       have n2_ := zK (yC (zr HO_qc.out) (Kd.R_base ho1) hb)
                       have n3_ := zK (yC (zr HO_qd.out) (Kd.R_base ho0) hb)
                       have n4_ := zK (yC (zr HO_qe.out) (Kd.R_base ho1) hb)
                       have n5_ := zK (zV (zW (zW ho0 (yB (zr HO_qa.out))) (yB (zr HO_qd.out))) (yG (zl HB.out)))
                       have n6_ := zK (zV (zW (zW ho1 (yB (zr HO_qc.out))) (yB (zr HO_qe.out))) (yG (zl HB.out)))
                       have n7_ := zK (zP (g := gb108) (o := .cells #[.slice Ao67 xqa_31.length co67, .int .i64 xqb_31, .slice Ao68 xqc_31.length co68] 25 (0, 0)) (zb BK108.out) hb)
                       have n8_ := zK (zP (g := gb123) (o := .cells #[.slice Ao39 t115.length co39, .int .i64 t118, .slice Ao42 t119.length co42] 25 (0, 0)) (zb BK123.out) hb)
                       have n9_ := zK (zP (g := gb139) (o := .cells #[.slice none 0 0, .int .i64 0, .slice none 0 0] 25 (0, 0)) (zb BK139.out) hb)
                       have n10_ := zK (yF (zl HB.out) hb)
                       clear HO_6
                       clear HO_qa
                       clear HO_qc
                       clear HO_qd
                       clear HO_qe
                       clear BK108
                       clear BK123
                       clear BK139
                       clear HB
                       have HO_6 := n0_
                       have HO_qa := n1_
                       have HO_qc := n2_
                       have HO_qd := n3_
                       have HO_qe := n4_
                       have HO133 := n5_
                       have HO137 := n6_
                       have BK108 := n7_
                       have BK123 := n8_
                       have BK139 := n9_
                       have HB := n10_
                       clear n0_ n1_ n2_ n3_ n4_ n5_ n6_ n7_ n8_ n9_ n10_
                       (try clear hb)
                       (try clear hb2)
                       (try clear hk)
                       (try clear hi)
                       (try clear ho0)
                       (try clear ho1)
                       refine hK.out _ _ ⟨(zQ BK108.out 0).trans rfl, (zQ BK108.out 1).trans rfl, (zQ BK108.out 2).trans rfl, HS3_, HS4_, HS5_⟩ (fun hHeld => ?_)
                       clear hK K
                       refine norm_ (a' := ?_) ?_ ?_
                       rotate_left
                       ·show Act.put _ (some 86) _ = _
                        simp only [Act.put, zY, zZ, yA, i64_w, i32_w]
                        rfl
                       refine pure_ (i := 6) (N := some 80) (v := ?_) (a' := ?_) #[true, true, true, true, true, true, true, false, false, true, false, false] rfl rfl (any_of HT_.out (by kernel_rfl)) (fun _ _ _ h => h) (Or.inl ⟨by rfl, ?_⟩) ?_ ?_
                       rotate_left
                       ·intro w'
                        go_simp
                        with_reducible rfl
                       rotate_left
                       ·simp only [Act.put, zY, zZ, yA, i64_w, i32_w]
                        rfl
                       refine pure_ (i := 7) (N := some 87) (v := ?_) (a' := ?_) #[true, true, true, true, true, true, true, true, false, true, false, false] rfl rfl (any_of HT_.out (by kernel_rfl)) (fun _ _ _ h => h) (Or.inl ⟨by rfl, ?_⟩) ?_ ?_
                       rotate_left
                       ·intro w'
                        go_simp
                        with_reducible rfl
                       rotate_left
                       ·simp only [Act.put, zY, zZ, yA, i64_w, i32_w]
                        rfl
                       refine pure_ (i := 8) (N := some 88) (v := ?_) (a' := ?_) #[true, true, true, true, true, true, true, true, true, true, false, false] rfl rfl (any_of HT_.out (by kernel_rfl)) (fun _ _ _ h => h) (Or.inl ⟨by rfl, ?_⟩) ?_ ?_
                       rotate_left
                       ·intro w'
                        go_simp
                        with_reducible rfl
                       rotate_left
                       ·simp only [Act.put, zY, zZ, yA, i64_w, i32_w]
                        rfl
                       exact norm_ (by simp only [putAll, Act.put, zY, zZ, yA]) (hCont (v132, v136, gb139) _ ⟨hHeld, (by (with_reducible repeat (first | apply zA | apply zB | apply zC)); exact Kd.R_mono HO133.out (fun _ hk => ⟨hk.1.2, hk.2⟩)), (by (with_reducible repeat (first | apply zA | apply zB | apply zC)); exact Kd.R_mono HO137.out (fun _ hk => ⟨hk.1.2, hk.2⟩)), (by (with_reducible repeat (first | apply zA | apply zB | apply zC)); exact Kd.R_mono HO_qa.out (fun _ hk => ⟨hk.2, hk.1⟩)), (by (with_reducible repeat (first | apply zA | apply zB | apply zC)); exact Kd.R_mono HO_qc.out (fun _ hk => ⟨hk.2, hk.1⟩)), (by (with_reducible repeat (first | apply zA | apply zB | apply zC)); exact Kd.R_mono HO_qd.out (fun _ hk => ⟨hk.2, hk.1⟩)), (by (with_reducible repeat (first | apply zA | apply zB | apply zC)); exact Kd.R_mono HO_qe.out (fun _ hk => ⟨hk.2, hk.1⟩)), (zr HO_6.out), (zb BK108.out), (zb BK123.out), (zb BK139.out), GW139.out, GE139.out, NB108_139.out, NB139_108.out, NB123_139.out, NB139_123.out, (zl HB.out)⟩)
                     rintro ⟨v132, v136, gb139⟩ w72 ⟨hS_, h0_, h1_, h2_, h3_, h4_, h5_, h6_, h7_, h8_, h9_, h10_, h11_, h12_, h13_, h14_, h15_, h16_⟩
                     have n0_ : Aside0 (Kd.R k64 64 w72 w.heap.size (fun k_ => some k_ ≠ (.slice Ao67 xqa_31.length co67 : Value).ownBlock ∧ some k_ ≠ (.slice Ao39 t115.length co39 : Value).ownBlock) v132 t131) := ⟨h0_⟩
                     have n1_ : Aside0 (Kd.R (Kd.int .i64) 3 w72 w.heap.size (fun k_ => some k_ ≠ (.slice Ao68 xqc_31.length co68 : Value).ownBlock ∧ some k_ ≠ (.slice Ao42 t119.length co42 : Value).ownBlock) v136 t135) := ⟨h1_⟩
                     have n2_ : Aside0 (Kd.R k64 64 w72 w.heap.size (fun k_ => some k_ ≠ (v132 : Value).ownBlock ∧ True) (.slice Ao67 xqa_31.length co67) xqa_31) := ⟨h2_⟩
                     have n3_ : Aside0 (Kd.R (Kd.int .i64) 3 w72 w.heap.size (fun k_ => some k_ ≠ (v136 : Value).ownBlock ∧ True) (.slice Ao68 xqc_31.length co68) xqc_31) := ⟨h3_⟩
                     have n4_ : Aside0 (Kd.R k64 64 w72 w.heap.size (fun k_ => some k_ ≠ (v132 : Value).ownBlock ∧ True) (.slice Ao39 t115.length co39) t115) := ⟨h4_⟩
                     have n5_ : Aside0 (Kd.R (Kd.int .i64) 3 w72 w.heap.size (fun k_ => some k_ ≠ (v136 : Value).ownBlock ∧ True) (.slice Ao42 t119.length co42) t119) := ⟨h5_⟩
                     have n6_ : Aside0 (Kd.R k50 50 w72 w.heap.size (fun _ => True) (.slice (some ad130) x6_31.length co66) x6_31) := ⟨h6_⟩
                     have n7_ : Aside0 (w72.heap[gb108]? = some (.cells #[.slice Ao67 xqa_31.length co67, .int .i64 xqb_31, .slice Ao68 xqc_31.length co68] 25 (0, 0))) := ⟨h7_⟩
                     have n8_ : Aside0 (w72.heap[gb123]? = some (.cells #[.slice Ao39 t115.length co39, .int .i64 t118, .slice Ao42 t119.length co42] 25 (0, 0))) := ⟨h8_⟩
                     have n9_ : Aside0 (w72.heap[gb139]? = some (.cells #[.slice none 0 0, .int .i64 0, .slice none 0 0] 25 (0, 0))) := ⟨h9_⟩
                     have n10_ : Aside0 (w.heap.size ≤ gb139) := ⟨h10_⟩
                     have n11_ : Aside0 (w.heap.size ≤ gb139) := ⟨h11_⟩
                     have n12_ : Aside0 (gb108 ≠ gb139) := ⟨h12_⟩
                     have n13_ : Aside0 (gb139 ≠ gb108) := ⟨h13_⟩
                     have n14_ : Aside0 (gb123 ≠ gb139) := ⟨h14_⟩
                     have n15_ : Aside0 (gb139 ≠ gb123) := ⟨h15_⟩
                     have n16_ : Aside0 (Below w.heap.size w w72) := ⟨h16_⟩
                     clear HO_6
                     clear HO_qa
                     clear HO_qc
                     clear HO_qd
                     clear HO_qe
                     clear BK108
                     clear BK123
                     clear HB
                     clear h0_ h1_ h2_ h3_ h4_ h5_ h6_ h7_ h8_ h9_ h10_ h11_ h12_ h13_ h14_ h15_ h16_
                     have HO133 := n0_
                     have HO137 := n1_
                     have HO_qa := n2_
                     have HO_qc := n3_
                     have HO_qd := n4_
                     have HO_qe := n5_
                     have HO_6 := n6_
                     have BK108 := n7_
                     have BK123 := n8_
                     have BK139 := n9_
                     have GW139 := n10_
                     have GE139 := n11_
                     have NB108_139 := n12_
                     have NB139_108 := n13_
                     have NB123_139 := n14_
                     have NB139_123 := n15_
                     have HB := n16_
                     clear n0_ n1_ n2_ n3_ n4_ n5_ n6_ n7_ n8_ n9_ n10_ n11_ n12_ n13_ n14_ n15_ n16_
                     have hHeld : w72.cell? ⟨gb108, 0, none⟩ = some (.slice Ao67 xqa_31.length co67) ∧ w72.cell? ⟨gb108, 1, none⟩ = some (.int .i64 xqb_31) ∧ w72.cell? ⟨gb108, 2, none⟩ = some (.slice Ao68 xqc_31.length co68) ∧ w72.cell? (ad130.add (((ji59)).toNat * 3)) = some (.int .i64 ((rd_T50 x6_31 (ji59)).f0.f0)) ∧ w72.cell? ⟨(ad130.add (((ji59)).toNat * 3)).block, (ad130.add (((ji59)).toNat * 3)).off + 1, none⟩ = some (.int .i64 ((rd_T50 x6_31 (ji59)).f0.f1)) ∧ w72.cell? ⟨(ad130.add (((ji59)).toNat * 3)).block, (ad130.add (((ji59)).toNat * 3)).off + 2, none⟩ = some (.int .i64 ((rd_T50 x6_31 (ji59)).f1)) := hS_
                     obtain ⟨Ao73, co73, eo73⟩ := yE HO133.out
                     (first | subst eo73 | (injection eo73 with f1_ f2_ f3_; have f4_ := f1_.symm; have f5_ := f3_.symm; clear f1_ f2_ f3_; subst f4_; subst f5_))
                     obtain ⟨Ao76, co76, eo76⟩ := yE HO137.out
                     (first | subst eo76 | (injection eo76 with f1_ f2_ f3_; have f4_ := f1_.symm; have f5_ := f3_.symm; clear f1_ f2_ f3_; subst f4_; subst f5_))
                     refine norm_ (a' := ?_) ?_ ?_
                     rotate_left
                     ·simp only [putAll, Act.put, zY, zZ, yA]
                      rfl
                     refine one_ (i := 10) (N := none) #[true, true, true, true, true, true, true, true, true, true, true, false] rfl rfl (one_of HT_.out (by kernel_rfl)) (by decide) (fun K hK => ?_)
                     have hs74 : w72.cell? ⟨gb139, 0, none⟩ = some (.slice none 0 0) := (zQ BK139.out 0).trans rfl
                     have hfs74 := zR BK139.out 0
                     have hns74_0 := NB108_139.out
                     have hns74_1 := NB123_139.out
                     have hms74_0 := NB139_108.out
                     have hms74_1 := NB139_123.out
                     have hs75 : w72.cell? ⟨gb139, 1, none⟩ = some (.int .i64 0) := (zQ BK139.out 1).trans rfl
                     have hfs75 := zR BK139.out 1
                     have hns75_0 := NB108_139.out
                     have hns75_1 := NB123_139.out
                     have hms75_0 := NB139_108.out
                     have hms75_1 := NB139_123.out
                     have hs77 : w72.cell? ⟨gb139, 2, none⟩ = some (.slice none 0 0) := (zQ BK139.out 2).trans rfl
                     have hfs77 := zR BK139.out 2
                     have hns77_0 := NB108_139.out
                     have hns77_1 := NB123_139.out
                     have hms77_0 := NB139_108.out
                     have hms77_1 := NB139_123.out
                     refine skip_ (w1 := ?_) (by rfl) rfl ?_ ?_
                     rotate_left
                     ·go_simp
                      rfl
                     refine hK.out _ _ ⟨((cell_far (p := ⟨gb139, _, none⟩) NB108_139.out _).trans (((cell_far (p := ⟨gb139, _, none⟩) NB108_139.out _).trans (((cell_far (p := ⟨gb139, _, none⟩) NB108_139.out _).trans (hHeld.1)))))), ((cell_far (p := ⟨gb139, _, none⟩) NB108_139.out _).trans (((cell_far (p := ⟨gb139, _, none⟩) NB108_139.out _).trans (((cell_far (p := ⟨gb139, _, none⟩) NB108_139.out _).trans (hHeld.2.1)))))), ((cell_far (p := ⟨gb139, _, none⟩) NB108_139.out _).trans (((cell_far (p := ⟨gb139, _, none⟩) NB108_139.out _).trans (((cell_far (p := ⟨gb139, _, none⟩) NB108_139.out _).trans (hHeld.2.2.1)))))), ((cell_far (p := ⟨gb139, _, none⟩) (by first | exact Kd.own_blk (Kd.R_ne HO_6.out BK139.out (by decide)) | (rw [add_block]; exact Kd.own_blk (Kd.R_ne HO_6.out BK139.out (by decide))) | (show (Addr.add _ _).block ≠ _; rw [add_block]; exact Kd.own_blk (Kd.R_ne HO_6.out BK139.out (by decide))) | (dsimp only; exact Kd.own_blk (Kd.R_ne HO_6.out BK139.out (by decide)))) _).trans (((cell_far (p := ⟨gb139, _, none⟩) (by first | exact Kd.own_blk (Kd.R_ne HO_6.out BK139.out (by decide)) | (rw [add_block]; exact Kd.own_blk (Kd.R_ne HO_6.out BK139.out (by decide))) | (show (Addr.add _ _).block ≠ _; rw [add_block]; exact Kd.own_blk (Kd.R_ne HO_6.out BK139.out (by decide))) | (dsimp only; exact Kd.own_blk (Kd.R_ne HO_6.out BK139.out (by decide)))) _).trans (((cell_far (p := ⟨gb139, _, none⟩) (by first | exact Kd.own_blk (Kd.R_ne HO_6.out BK139.out (by decide)) | (rw [add_block]; exact Kd.own_blk (Kd.R_ne HO_6.out BK139.out (by decide))) | (show (Addr.add _ _).block ≠ _; rw [add_block]; exact Kd.own_blk (Kd.R_ne HO_6.out BK139.out (by decide))) | (dsimp only; exact Kd.own_blk (Kd.R_ne HO_6.out BK139.out (by decide)))) _).trans (hHeld.2.2.2.1)))))), ((cell_far (p := ⟨gb139, _, none⟩) (by first | exact Kd.own_blk (Kd.R_ne HO_6.out BK139.out (by decide)) | (rw [add_block]; exact Kd.own_blk (Kd.R_ne HO_6.out BK139.out (by decide))) | (show (Addr.add _ _).block ≠ _; rw [add_block]; exact Kd.own_blk (Kd.R_ne HO_6.out BK139.out (by decide))) | (dsimp only; exact Kd.own_blk (Kd.R_ne HO_6.out BK139.out (by decide)))) _).trans (((cell_far (p := ⟨gb139, _, none⟩) (by first | exact Kd.own_blk (Kd.R_ne HO_6.out BK139.out (by decide)) | (rw [add_block]; exact Kd.own_blk (Kd.R_ne HO_6.out BK139.out (by decide))) | (show (Addr.add _ _).block ≠ _; rw [add_block]; exact Kd.own_blk (Kd.R_ne HO_6.out BK139.out (by decide))) | (dsimp only; exact Kd.own_blk (Kd.R_ne HO_6.out BK139.out (by decide)))) _).trans (((cell_far (p := ⟨gb139, _, none⟩) (by first | exact Kd.own_blk (Kd.R_ne HO_6.out BK139.out (by decide)) | (rw [add_block]; exact Kd.own_blk (Kd.R_ne HO_6.out BK139.out (by decide))) | (show (Addr.add _ _).block ≠ _; rw [add_block]; exact Kd.own_blk (Kd.R_ne HO_6.out BK139.out (by decide))) | (dsimp only; exact Kd.own_blk (Kd.R_ne HO_6.out BK139.out (by decide)))) _).trans (hHeld.2.2.2.2.1)))))), ((cell_far (p := ⟨gb139, _, none⟩) (by first | exact Kd.own_blk (Kd.R_ne HO_6.out BK139.out (by decide)) | (rw [add_block]; exact Kd.own_blk (Kd.R_ne HO_6.out BK139.out (by decide))) | (show (Addr.add _ _).block ≠ _; rw [add_block]; exact Kd.own_blk (Kd.R_ne HO_6.out BK139.out (by decide))) | (dsimp only; exact Kd.own_blk (Kd.R_ne HO_6.out BK139.out (by decide)))) _).trans (((cell_far (p := ⟨gb139, _, none⟩) (by first | exact Kd.own_blk (Kd.R_ne HO_6.out BK139.out (by decide)) | (rw [add_block]; exact Kd.own_blk (Kd.R_ne HO_6.out BK139.out (by decide))) | (show (Addr.add _ _).block ≠ _; rw [add_block]; exact Kd.own_blk (Kd.R_ne HO_6.out BK139.out (by decide))) | (dsimp only; exact Kd.own_blk (Kd.R_ne HO_6.out BK139.out (by decide)))) _).trans (((cell_far (p := ⟨gb139, _, none⟩) (by first | exact Kd.own_blk (Kd.R_ne HO_6.out BK139.out (by decide)) | (rw [add_block]; exact Kd.own_blk (Kd.R_ne HO_6.out BK139.out (by decide))) | (show (Addr.add _ _).block ≠ _; rw [add_block]; exact Kd.own_blk (Kd.R_ne HO_6.out BK139.out (by decide))) | (dsimp only; exact Kd.own_blk (Kd.R_ne HO_6.out BK139.out (by decide)))) _).trans (hHeld.2.2.2.2.2))))))⟩ (fun hHeld => ?_)
                     clear hK K
                     refine pure_ (i := 11) (N := some 13) (v := ?_) (a' := ?_) #[true, true, true, true, true, true, true, true, true, true, true, true] rfl rfl (any_of HT_.out (by kernel_rfl)) (fun _ _ _ h => h) (Or.inl ⟨by rfl, ?_⟩) ?_ ?_
                     rotate_left
                     ·intro w'
                      go_simp
                      with_reducible rfl
                     rotate_left
                     ·simp only [Act.put, zY, zZ, yA, i64_w, i32_w]
                      rfl
                     refine done_ (done_of HT_.out (by kernel_rfl)) ?_
                     try go_wp2_with (first | ((with_reducible refine gate_callee (f := 19) rfl ?_); refine goesL_ (some 90) rfl rfl Try.func19 (by kernel_rfl) rfl #[.int .i64 t138] rfl zt ?_; (with_reducible refine (tollbarlaw0_Num.calls t138 t140 _ A63.out).mono ?_); rintro e w' ⟨rfl, ⟨nd, rfl⟩⟩; refine ⟨_, rfl, ?_⟩; have p141 : 0 ≤ ((ji59) : Int) := of_decide_eq_true (by first | (with_reducible assumption) | assumption); have q141 : (ji59) < (x6_31.length : Int) := of_decide_eq_true (by first | (with_reducible assumption) | assumption); obtain ⟨ad141, e141, hx141_0, hx141_1, hx141_2⟩ := at_T50 (zX HO_6.out).2.2 (ji59) p141 q141; obtain rfl : ad130 = ad141 := (by injection e141); have hn141_0 : ad130.block ≠ gb139 := Kd.own_blk (Kd.R_ne HO_6.out BK139.out (by decide)); have hn141_1 : ad130.block ≠ gb139 := Kd.own_blk (Kd.R_ne HO_6.out BK139.out (by decide)); have hn141_2 : ad130.block ≠ gb139 := Kd.own_blk (Kd.R_ne HO_6.out BK139.out (by decide)); replace hx141_0 := (cell_far (p := ⟨gb139, 0, none⟩) (by first | (rw [add_block]; exact hn141_0) | (show (Addr.add _ _).block ≠ _; rw [add_block]; exact hn141_0) | exact hn141_0) (.slice Ao73 t131.length co73)).trans hx141_0; replace hx141_1 := (cell_far (p := ⟨gb139, 0, none⟩) (by first | (rw [add_block]; exact hn141_0) | (show (Addr.add _ _).block ≠ _; rw [add_block]; exact hn141_0) | exact hn141_0) (.slice Ao73 t131.length co73)).trans hx141_1; replace hx141_2 := (cell_far (p := ⟨gb139, 0, none⟩) (by first | (rw [add_block]; exact hn141_0) | (show (Addr.add _ _).block ≠ _; rw [add_block]; exact hn141_0) | exact hn141_0) (.slice Ao73 t131.length co73)).trans hx141_2; replace hx141_0 := (cell_far (p := ⟨gb139, 1, none⟩) (by first | (rw [add_block]; exact hn141_1) | (show (Addr.add _ _).block ≠ _; rw [add_block]; exact hn141_1) | exact hn141_1) (.int .i64 t134)).trans hx141_0; replace hx141_1 := (cell_far (p := ⟨gb139, 1, none⟩) (by first | (rw [add_block]; exact hn141_1) | (show (Addr.add _ _).block ≠ _; rw [add_block]; exact hn141_1) | exact hn141_1) (.int .i64 t134)).trans hx141_1; replace hx141_2 := (cell_far (p := ⟨gb139, 1, none⟩) (by first | (rw [add_block]; exact hn141_1) | (show (Addr.add _ _).block ≠ _; rw [add_block]; exact hn141_1) | exact hn141_1) (.int .i64 t134)).trans hx141_2; replace hx141_0 := (cell_far (p := ⟨gb139, 2, none⟩) (by first | (rw [add_block]; exact hn141_2) | (show (Addr.add _ _).block ≠ _; rw [add_block]; exact hn141_2) | exact hn141_2) (.slice Ao76 t135.length co76)).trans hx141_0; replace hx141_1 := (cell_far (p := ⟨gb139, 2, none⟩) (by first | (rw [add_block]; exact hn141_2) | (show (Addr.add _ _).block ≠ _; rw [add_block]; exact hn141_2) | exact hn141_2) (.slice Ao76 t135.length co76)).trans hx141_1; replace hx141_2 := (cell_far (p := ⟨gb139, 2, none⟩) (by first | (rw [add_block]; exact hn141_2) | (show (Addr.add _ _).block ≠ _; rw [add_block]; exact hn141_2) | exact hn141_2) (.slice Ao76 t135.length co76)).trans hx141_2; clear hn141_0; clear hn141_1; clear hn141_2; replace p141 := eq_true p141; replace q141 := eq_true q141) | ((with_reducible refine gate_callee (f := 32) rfl ?_); refine goesL_ (some 97) rfl rfl Try.func32 (by kernel_rfl) rfl #[.slice (some ad130) x6_31.length co66, .agg #[.int .i64 ((rd_T50 x6_31 (ji59)).f0.f0), .int .i64 ((rd_T50 x6_31 (ji59)).f0.f1), .int .i64 ((rd_T50 x6_31 (ji59)).f1)]] rfl (by (try simp only [List.map_toArray, List.map_cons, List.map_nil]); first | done | (simp only [hji59]; rfl) | rfl | (simp only [List.length_drop, List.length_take]; rfl)) ?_; (with_reducible refine (tollbarref17_Without.calls kj50 _ _ x6_31 ((rd_T50 x6_31 (ji59)).f0.f0) ((rd_T50 x6_31 (ji59)).f0.f1) ((rd_T50 x6_31 (ji59)).f1) t142 _ ?side1 ?side2 A65.out).mono ?_); (case side1 => refine (zX (e := 50) (base := w.heap.size) (ok := fun k_ => True) (n := x6_31.length) (c := co66) ?_).2.2; exact (by (with_reducible repeat (first | apply zA | apply zB | apply zC)); exact (Kd.R_mono (Kd.R_far (p := ⟨gb139, 2, none⟩) (Kd.R_far (p := ⟨gb139, 1, none⟩) (Kd.R_far (p := ⟨gb139, 0, none⟩) (Kd.R_types HO_6.out BK139.out (by decide)) (fun _ hk => hk.2) (.slice Ao73 t131.length co73)) (fun _ hk => hk.2) (.int .i64 t134)) (fun _ hk => hk.2) (.slice Ao76 t135.length co76)) (fun _ h_ => h_.1)))); (case side2 => exact (zX HO_6.out).2.1); rintro e w78 ⟨v143, rfl, ho0, hb⟩; refine ⟨_, rfl, ?_⟩; have n0_ := zK (yC (by (with_reducible repeat (first | apply zA | apply zB | apply zC)); exact (Kd.R_mono (Kd.R_far (p := ⟨gb139, 2, none⟩) (Kd.R_far (p := ⟨gb139, 1, none⟩) (Kd.R_far (p := ⟨gb139, 0, none⟩) (Kd.R_types HO_6.out BK139.out (by decide)) (fun _ hk => hk.2) (.slice Ao73 t131.length co73)) (fun _ hk => hk.2) (.int .i64 t134)) (fun _ hk => hk.2) (.slice Ao76 t135.length co76)) (fun _ h_ => h_.1))) (Kd.R_base ho0) hb); have n1_ := zK (zO (by (with_reducible repeat (first | apply zA | apply zB | apply zC)); exact (Kd.R_mono (Kd.R_far (p := ⟨gb139, 2, none⟩) (Kd.R_far (p := ⟨gb139, 1, none⟩) (Kd.R_far (p := ⟨gb139, 0, none⟩) (Kd.R_types HO_qa.out BK139.out (by decide)) (fun _ hk => hk.2) (.slice Ao73 t131.length co73)) (fun _ hk => hk.2) (.int .i64 t134)) (fun _ hk => hk.2) (.slice Ao76 t135.length co76)) (fun _ h_ => h_.1))) hb); have n2_ := zK (zO (by (with_reducible repeat (first | apply zA | apply zB | apply zC)); exact (Kd.R_mono (Kd.R_far (p := ⟨gb139, 2, none⟩) (Kd.R_far (p := ⟨gb139, 1, none⟩) (Kd.R_far (p := ⟨gb139, 0, none⟩) (Kd.R_types HO_qc.out BK139.out (by decide)) (fun _ hk => hk.2) (.slice Ao73 t131.length co73)) (fun _ hk => hk.2) (.int .i64 t134)) (fun _ hk => hk.2) (.slice Ao76 t135.length co76)) (fun _ h_ => h_.1))) hb); have n3_ := zK (zO (by (with_reducible repeat (first | apply zA | apply zB | apply zC)); exact (Kd.R_mono (Kd.R_far (p := ⟨gb139, 2, none⟩) (Kd.R_far (p := ⟨gb139, 1, none⟩) (Kd.R_far (p := ⟨gb139, 0, none⟩) (Kd.R_types HO_qd.out BK139.out (by decide)) (fun _ hk => hk.2) (.slice Ao73 t131.length co73)) (fun _ hk => hk.2) (.int .i64 t134)) (fun _ hk => hk.2) (.slice Ao76 t135.length co76)) (fun _ h_ => h_.1))) hb); have n4_ := zK (zO (by (with_reducible repeat (first | apply zA | apply zB | apply zC)); exact (Kd.R_mono (Kd.R_far (p := ⟨gb139, 2, none⟩) (Kd.R_far (p := ⟨gb139, 1, none⟩) (Kd.R_far (p := ⟨gb139, 0, none⟩) (Kd.R_types HO_qe.out BK139.out (by decide)) (fun _ hk => hk.2) (.slice Ao73 t131.length co73)) (fun _ hk => hk.2) (.int .i64 t134)) (fun _ hk => hk.2) (.slice Ao76 t135.length co76)) (fun _ h_ => h_.1))) hb); have n5_ := zK (zO (by (with_reducible repeat (first | apply zA | apply zB | apply zC)); exact (Kd.R_mono (Kd.R_far (p := ⟨gb139, 2, none⟩) (Kd.R_far (p := ⟨gb139, 1, none⟩) (Kd.R_far (p := ⟨gb139, 0, none⟩) (Kd.R_types HO133.out BK139.out (by decide)) (fun _ hk => hk.2) (.slice Ao73 t131.length co73)) (fun _ hk => hk.2) (.int .i64 t134)) (fun _ hk => hk.2) (.slice Ao76 t135.length co76)) (fun _ h_ => h_.1))) hb); have n6_ := zK (zO (by (with_reducible repeat (first | apply zA | apply zB | apply zC)); exact (Kd.R_mono (Kd.R_far (p := ⟨gb139, 2, none⟩) (Kd.R_far (p := ⟨gb139, 1, none⟩) (Kd.R_far (p := ⟨gb139, 0, none⟩) (Kd.R_types HO137.out BK139.out (by decide)) (fun _ hk => hk.2) (.slice Ao73 t131.length co73)) (fun _ hk => hk.2) (.int .i64 t134)) (fun _ hk => hk.2) (.slice Ao76 t135.length co76)) (fun _ h_ => h_.1))) hb); have n7_ := zK (zV (zW ho0 (yB (by (with_reducible repeat (first | apply zA | apply zB | apply zC)); exact (Kd.R_mono (Kd.R_far (p := ⟨gb139, 2, none⟩) (Kd.R_far (p := ⟨gb139, 1, none⟩) (Kd.R_far (p := ⟨gb139, 0, none⟩) (Kd.R_types HO_6.out BK139.out (by decide)) (fun _ hk => hk.2) (.slice Ao73 t131.length co73)) (fun _ hk => hk.2) (.int .i64 t134)) (fun _ hk => hk.2) (.slice Ao76 t135.length co76)) (fun _ h_ => h_.1))))) (yG (zl HB.out))); have n8_ := zK (zP (g := gb108) (o := .cells #[.slice Ao67 xqa_31.length co67, .int .i64 xqb_31, .slice Ao68 xqc_31.length co68] 25 (0, 0)) (by (with_reducible repeat (first | refine zD ?_ _ | refine zE ?_ | refine zF ?_ _)); refine blk_far ?_ NB108_139.out _; (with_reducible repeat (first | refine zD ?_ _ | refine zE ?_ | refine zF ?_ _)); refine blk_far ?_ NB108_139.out _; (with_reducible repeat (first | refine zD ?_ _ | refine zE ?_ | refine zF ?_ _)); refine blk_far ?_ NB108_139.out _; (with_reducible repeat (first | refine zD ?_ _ | refine zE ?_ | refine zF ?_ _)); exact BK108.out) hb); have n9_ := zK (zP (g := gb123) (o := .cells #[.slice Ao39 t115.length co39, .int .i64 t118, .slice Ao42 t119.length co42] 25 (0, 0)) (by (with_reducible repeat (first | refine zD ?_ _ | refine zE ?_ | refine zF ?_ _)); refine blk_far ?_ NB123_139.out _; (with_reducible repeat (first | refine zD ?_ _ | refine zE ?_ | refine zF ?_ _)); refine blk_far ?_ NB123_139.out _; (with_reducible repeat (first | refine zD ?_ _ | refine zE ?_ | refine zF ?_ _)); refine blk_far ?_ NB123_139.out _; (with_reducible repeat (first | refine zD ?_ _ | refine zE ?_ | refine zF ?_ _)); exact BK123.out) hb); have n10_ := zK (zP (g := gb139) (o := .cells #[.slice Ao73 t131.length co73, .int .i64 t134, .slice Ao76 t135.length co76] 25 (0, 0)) (by (with_reducible repeat (first | refine zD ?_ _ | refine zE ?_ | refine zF ?_ _)); refine blk_put (cs := #[.slice Ao73 t131.length co73, .int .i64 t134, .slice none 0 0]) ?_ 2 _ rfl; (with_reducible repeat (first | refine zD ?_ _ | refine zE ?_ | refine zF ?_ _)); refine blk_put (cs := #[.slice Ao73 t131.length co73, .int .i64 0, .slice none 0 0]) ?_ 1 _ rfl; (with_reducible repeat (first | refine zD ?_ _ | refine zE ?_ | refine zF ?_ _)); refine blk_put (cs := #[.slice none 0 0, .int .i64 0, .slice none 0 0]) ?_ 0 _ rfl; (with_reducible repeat (first | refine zD ?_ _ | refine zE ?_ | refine zF ?_ _)); exact BK139.out) hb); have n11_ := zK (yF (zl HB.out) hb); clear HO_6; clear HO_qa; clear HO_qc; clear HO_qd; clear HO_qe; clear HO133; clear HO137; clear BK108; clear BK123; clear BK139; clear HB; have HO_6 := n0_; have HO_qa := n1_; have HO_qc := n2_; have HO_qd := n3_; have HO_qe := n4_; have HO133 := n5_; have HO137 := n6_; have HO144 := n7_; have BK108 := n8_; have BK123 := n9_; have BK139 := n10_; have HB := n11_; clear n0_ n1_ n2_ n3_ n4_ n5_ n6_ n7_ n8_ n9_ n10_ n11_; (try clear hb); (try clear hb2); (try clear hk); (try clear hi); (try clear ho0); have hnb79 := NB139_108.out; have hnc79 := NB108_139.out; have hnb80 := NB139_123.out; have hnc80 := NB123_139.out; have hcz81_0 : w78.cell? ⟨gb139, 0, none⟩ = some (.slice Ao73 t131.length co73) := (zQ BK139.out 0).trans rfl; have hcz81_1 : w78.cell? ⟨gb139, 1, none⟩ = some (.int .i64 t134) := (zQ BK139.out 1).trans rfl; have hcz81_2 : w78.cell? ⟨gb139, 2, none⟩ = some (.slice Ao76 t135.length co76) := (zQ BK139.out 2).trans rfl; have hfz81_0 := zR BK139.out 0; have hfz81_1 := zR BK139.out 1; have hfz81_2 := zR BK139.out 2; have hnb82 := NB108_123.out; have hnc82 := NB123_108.out; have hcz83_0 : w78.cell? ⟨gb108, 0, none⟩ = some (.slice Ao67 xqa_31.length co67) := (zQ BK108.out 0).trans rfl; have hcz83_1 : w78.cell? ⟨gb108, 1, none⟩ = some (.int .i64 xqb_31) := (zQ BK108.out 1).trans rfl; have hcz83_2 : w78.cell? ⟨gb108, 2, none⟩ = some (.slice Ao68 xqc_31.length co68) := (zQ BK108.out 2).trans rfl; have hfz83_0 := zR BK108.out 0; have hfz83_1 := zR BK108.out 1; have hfz83_2 := zR BK108.out 2))
                     go_meet
                     case rel => exact ⟨_, (t142), (t131), (t134), (t135), (.slice Ao73 t131.length co73), (.slice Ao76 t135.length co76), H', ⟨by have := HK1.out; have := HJ9.out; have := HJ31.out; have := HJ50.out; first | omega | exact Nat.le_refl _⟩, ⟨by (with_reducible repeat (first | apply zA | apply zB | apply zC)); exact Kd.R_mono (Kd.R_far (p := ⟨gb108, 2, none⟩) (Kd.R_far (p := ⟨gb108, 1, none⟩) (Kd.R_far (p := ⟨gb108, 0, none⟩) (Kd.R_types HO144.out BK108.out (by decide)) (fun _ hk => hk.2) (.slice Ao73 t131.length co73)) (fun _ hk => hk.2) (.int .i64 t134)) (fun _ hk => hk.2) (.slice Ao76 t135.length co76)) (fun _ _ => by trivial)⟩, ⟨by (with_reducible repeat (first | apply zA | apply zB | apply zC)); exact Kd.R_mono (Kd.R_far (p := ⟨gb108, 2, none⟩) (Kd.R_far (p := ⟨gb108, 1, none⟩) (Kd.R_far (p := ⟨gb108, 0, none⟩) (Kd.R_types HO133.out BK108.out (by decide)) (fun _ hk => hk.2) (.slice Ao73 t131.length co73)) (fun _ hk => hk.2) (.int .i64 t134)) (fun _ hk => hk.2) (.slice Ao76 t135.length co76)) (fun _ _ => by trivial)⟩, ⟨by (with_reducible repeat (first | apply zA | apply zB | apply zC)); exact Kd.R_mono (Kd.R_far (p := ⟨gb108, 2, none⟩) (Kd.R_far (p := ⟨gb108, 1, none⟩) (Kd.R_far (p := ⟨gb108, 0, none⟩) (Kd.R_types HO137.out BK108.out (by decide)) (fun _ hk => hk.2) (.slice Ao73 t131.length co73)) (fun _ hk => hk.2) (.int .i64 t134)) (fun _ hk => hk.2) (.slice Ao76 t135.length co76)) (fun _ _ => by trivial)⟩, ⟨by (with_reducible repeat (first | apply zA | apply zB | apply zC)); exact Kd.R_mono (Kd.R_far (p := ⟨gb108, 2, none⟩) (Kd.R_far (p := ⟨gb108, 1, none⟩) (Kd.R_far (p := ⟨gb108, 0, none⟩) (Kd.R_types HO_qd.out BK108.out (by decide)) (fun _ hk => hk.2) (.slice Ao73 t131.length co73)) (fun _ hk => hk.2) (.int .i64 t134)) (fun _ hk => hk.2) (.slice Ao76 t135.length co76)) (fun _ _ => by trivial)⟩, ⟨by (with_reducible repeat (first | apply zA | apply zB | apply zC)); exact Kd.R_mono (Kd.R_far (p := ⟨gb108, 2, none⟩) (Kd.R_far (p := ⟨gb108, 1, none⟩) (Kd.R_far (p := ⟨gb108, 0, none⟩) (Kd.R_types HO_qe.out BK108.out (by decide)) (fun _ hk => hk.2) (.slice Ao73 t131.length co73)) (fun _ hk => hk.2) (.int .i64 t134)) (fun _ hk => hk.2) (.slice Ao76 t135.length co76)) (fun _ _ => by trivial)⟩, ⟨by (with_reducible repeat (first | refine zD ?_ _ | refine zE ?_ | refine zF ?_ _)); refine blk_put (cs := #[.slice Ao73 t131.length co73, .int .i64 t134, .slice Ao68 xqc_31.length co68]) ?_ 2 _ rfl; (with_reducible repeat (first | refine zD ?_ _ | refine zE ?_ | refine zF ?_ _)); refine blk_put (cs := #[.slice Ao73 t131.length co73, .int .i64 xqb_31, .slice Ao68 xqc_31.length co68]) ?_ 1 _ rfl; (with_reducible repeat (first | refine zD ?_ _ | refine zE ?_ | refine zF ?_ _)); refine blk_put (cs := #[.slice Ao67 xqa_31.length co67, .int .i64 xqb_31, .slice Ao68 xqc_31.length co68]) ?_ 0 _ rfl; (with_reducible repeat (first | refine zD ?_ _ | refine zE ?_ | refine zF ?_ _)); exact BK108.out⟩, ⟨by (with_reducible repeat (first | refine zD ?_ _ | refine zE ?_ | refine zF ?_ _)); refine blk_far ?_ NB123_108.out _; (with_reducible repeat (first | refine zD ?_ _ | refine zE ?_ | refine zF ?_ _)); refine blk_far ?_ NB123_108.out _; (with_reducible repeat (first | refine zD ?_ _ | refine zE ?_ | refine zF ?_ _)); refine blk_far ?_ NB123_108.out _; (with_reducible repeat (first | refine zD ?_ _ | refine zE ?_ | refine zF ?_ _)); exact BK123.out⟩, ⟨by repeat (first | (with_reducible first | exact HB.out | apply zG | apply zH | apply zI | refine zL ?_ GE108.out | refine zL ?_ GE123.out | refine zL ?_ GE139.out) | exact HB.out)⟩⟩
                    ·rw [if_neg c64] at H
                     have c64b0 : (t140 == 0) = false := yK.mpr c64
                     have c64b1 : (t140 != 0) = true := yL.mpr c64
                     obtain rfl := Option.some.inj H
                     have p129 : 0 ≤ (x7_1 : Int) := of_decide_eq_true (by first | (with_reducible assumption) | assumption)
                     have q129 : x7_1 < (l1.length : Int) := of_decide_eq_true (by first | (with_reducible assumption) | assumption)
                     obtain ⟨ad129, e129, hx129_0⟩ := Kd.at_int HR1.out x7_1 p129 q129
                     cases e129
                     replace hx129_0 := (HB.out.cell (zJ w _ hx129_0)).trans hx129_0
                     replace p129 := eq_true p129
                     replace q129 := eq_true q129
                     obtain ⟨Ao84, co84, eo84⟩ := yE HO_6.out
                     subst eo84
                     obtain ⟨Ao85, co85, eo85⟩ := yE HO_qa.out
                     subst eo85
                     obtain ⟨Ao86, co86, eo86⟩ := yE HO_qc.out
                     subst eo86
                     try go_wp2
                     have n0_ := zK (zC HO_6.out)
                     have n1_ := zK (zC HO_qa.out)
                     have n2_ := zK (zC HO_qc.out)
                     have n3_ := zK (zC HO_qd.out)
                     have n4_ := zK (zC HO_qe.out)
                     have n5_ := zK (zE BK108.out)
                     have n6_ := zK (zE BK123.out)
                     have n7_ := zK (zI HB.out)
                     clear HO_6
                     clear HO_qa
                     clear HO_qc
                     clear HO_qd
                     clear HO_qe
                     clear BK108
                     clear BK123
                     clear HB
                     have HO_6 := n0_
                     have HO_qa := n1_
                     have HO_qc := n2_
                     have HO_qd := n3_
                     have HO_qe := n4_
                     have BK108 := n5_
                     have BK123 := n6_
                     have HB := n7_
                     clear n0_ n1_ n2_ n3_ n4_ n5_ n6_ n7_
                     have p130 : 0 ≤ ((ji59) : Int) := of_decide_eq_true (by first | (with_reducible assumption) | assumption)
                     have q130 : (ji59) < (x6_31.length : Int) := of_decide_eq_true (by first | (with_reducible assumption) | assumption)
                     obtain ⟨ad130, e130, hx130_0, hx130_1, hx130_2⟩ := at_T50 (zX HO_6.out).2.2 (ji59) p130 q130
                     cases e130
                     replace p130 := eq_true p130
                     replace q130 := eq_true q130
                     refine start_ (n := 12) (S := fun w' => w'.cell? ⟨gb108, 0, none⟩ = some (.slice Ao85 xqa_31.length co85) ∧ w'.cell? ⟨gb108, 1, none⟩ = some (.int .i64 xqb_31) ∧ w'.cell? ⟨gb108, 2, none⟩ = some (.slice Ao86 xqc_31.length co86) ∧ w'.cell? (ad130.add (((ji59)).toNat * 3)) = some (.int .i64 ((rd_T50 x6_31 (ji59)).f0.f0)) ∧ w'.cell? ⟨(ad130.add (((ji59)).toNat * 3)).block, (ad130.add (((ji59)).toNat * 3)).off + 1, none⟩ = some (.int .i64 ((rd_T50 x6_31 (ji59)).f0.f1)) ∧ w'.cell? ⟨(ad130.add (((ji59)).toNat * 3)).block, (ad130.add (((ji59)).toNat * 3)).off + 2, none⟩ = some (.int .i64 ((rd_T50 x6_31 (ji59)).f1))) (ds := []) #[false, false, false, false, false, false, false, false, false, false, false, false] (by kernel_rfl) rfl rfl ⟨(zQ BK108.out 0).trans rfl, (zQ BK108.out 1).trans rfl, (zQ BK108.out 2).trans rfl, hx130_0, hx130_1, hx130_2⟩ (fun hHeld => ?_); refine with_tabW tollbarlaw17_TreeGrows.tab21 tollbarlaw17_TreeGrows.bits21 (fun HT_ HW_ => ?_)
                     generalize wc.drew = w87 at HO_6 HO_qa HO_qc HO_qd HO_qe BK108 BK123 HB hx130_0 hx130_1 hx130_2 hHeld ⊢
                     refine pure_ (i := 1) (N := some 82) (v := ?_) (a' := ?_) #[false, true, false, false, false, false, false, false, false, false, false, false] rfl rfl (any_of HT_.out (by kernel_rfl)) (fun _ _ _ h => h) (Or.inl ⟨by rfl, ?_⟩) ?_ ?_
                     rotate_left
                     ·intro w'
                      go_simp
                      with_reducible rfl
                     rotate_left
                     ·simp only [Act.put, zY, zZ, yA, i64_w, i32_w]
                      rfl
                     refine pure_ (i := 2) (N := some 83) (v := ?_) (a' := ?_) #[false, true, true, false, false, false, false, false, false, false, false, false] rfl rfl (any_of HT_.out (by kernel_rfl)) (fun _ _ _ h => h) (Or.inl ⟨by rfl, ?_⟩) ?_ ?_
                     rotate_left
                     ·intro w'
                      go_simp
                      with_reducible rfl
                     rotate_left
                     ·simp only [Act.put, zY, zZ, yA, i64_w, i32_w]
                      rfl
                     refine pure_ (i := 3) (N := some 84) (v := ?_) (a' := ?_) #[false, true, true, true, false, false, false, false, false, false, false, false] rfl rfl (any_of HT_.out (by kernel_rfl)) (fun _ _ _ h => h) (Or.inl ⟨by rfl, ?_⟩) ?_ ?_
                     rotate_left
                     ·intro w'
                      go_simp
                      with_reducible rfl
                     rotate_left
                     ·simp only [Act.put, zY, zZ, yA, i64_w, i32_w]
                      rfl
                     refine take_ (i := 0) (N := some 81) (v := ?_) (a' := ?_) #[true, true, true, true, false, false, false, false, false, false, false, false] rfl rfl (take_ofW HT_.out HW_.out (by kernel_rfl)) (fun _ _ _ h => h) (Or.inl ⟨by rfl, ?_⟩) hHeld ?_ ?_
                     rotate_left
                     ·rintro w' ⟨s0, s1, s2, s3, s4, s5⟩
                      go_simp
                      with_reducible rfl
                     rotate_left
                     ·simp only [Act.put, zY, zZ, yA, i64_w, i32_w]
                      rfl
                     refine take_ (i := 4) (N := some 85) (v := ?_) (a' := ?_) #[true, true, true, true, true, false, false, false, false, false, false, false] rfl rfl (take_ofW HT_.out HW_.out (by kernel_rfl)) (fun _ _ _ h => h) (Or.inl ⟨by rfl, ?_⟩) hHeld ?_ ?_
                     rotate_left
                     ·rintro w' ⟨s0, s1, s2, s3, s4, s5⟩
                      go_simp
                      with_reducible rfl
                     rotate_left
                     ·simp only [Act.put, zY, zZ, yA, i64_w, i32_w]
                      rfl
                     refine join_ (σ := Value × Value × Nat) 2 #[true, true, true, true, true, true, true, true, true, true, false, false] (fun s_ => [(86, .tuple #[.agg #[s_.1, .int .i64 t134, s_.2.1], .int .i64 t138]), (12, .pointer (some ⟨s_.2.2, 0, none⟩)), (80, .tuple #[.agg #[s_.1, .int .i64 t134, s_.2.1], .int .i64 t138]), (87, .agg #[s_.1, .int .i64 t134, s_.2.1]), (88, .int .i64 t138)]) (fun s_ w' => (w'.cell? ⟨gb108, 0, none⟩ = some (.slice Ao85 xqa_31.length co85) ∧ w'.cell? ⟨gb108, 1, none⟩ = some (.int .i64 xqb_31) ∧ w'.cell? ⟨gb108, 2, none⟩ = some (.slice Ao86 xqc_31.length co86) ∧ w'.cell? (ad130.add (((ji59)).toNat * 3)) = some (.int .i64 ((rd_T50 x6_31 (ji59)).f0.f0)) ∧ w'.cell? ⟨(ad130.add (((ji59)).toNat * 3)).block, (ad130.add (((ji59)).toNat * 3)).off + 1, none⟩ = some (.int .i64 ((rd_T50 x6_31 (ji59)).f0.f1)) ∧ w'.cell? ⟨(ad130.add (((ji59)).toNat * 3)).block, (ad130.add (((ji59)).toNat * 3)).off + 2, none⟩ = some (.int .i64 ((rd_T50 x6_31 (ji59)).f1))) ∧ (Kd.R k64 64 w' w.heap.size (fun k_ => some k_ ≠ (.slice Ao85 xqa_31.length co85 : Value).ownBlock ∧ some k_ ≠ (.slice Ao39 t115.length co39 : Value).ownBlock) s_.1 t131) ∧ (Kd.R (Kd.int .i64) 3 w' w.heap.size (fun k_ => some k_ ≠ (.slice Ao86 xqc_31.length co86 : Value).ownBlock ∧ some k_ ≠ (.slice Ao42 t119.length co42 : Value).ownBlock) s_.2.1 t135) ∧ (Kd.R k64 64 w' w.heap.size (fun k_ => some k_ ≠ (s_.1 : Value).ownBlock ∧ True) (.slice Ao85 xqa_31.length co85) xqa_31) ∧ (Kd.R (Kd.int .i64) 3 w' w.heap.size (fun k_ => some k_ ≠ (s_.2.1 : Value).ownBlock ∧ True) (.slice Ao86 xqc_31.length co86) xqc_31) ∧ (Kd.R k64 64 w' w.heap.size (fun k_ => some k_ ≠ (s_.1 : Value).ownBlock ∧ True) (.slice Ao39 t115.length co39) t115) ∧ (Kd.R (Kd.int .i64) 3 w' w.heap.size (fun k_ => some k_ ≠ (s_.2.1 : Value).ownBlock ∧ True) (.slice Ao42 t119.length co42) t119) ∧ (Kd.R k50 50 w' w.heap.size (fun _ => True) (.slice (some ad130) x6_31.length co84) x6_31) ∧ (w'.heap[gb108]? = some (.cells #[.slice Ao85 xqa_31.length co85, .int .i64 xqb_31, .slice Ao86 xqc_31.length co86] 25 (0, 0))) ∧ (w'.heap[gb123]? = some (.cells #[.slice Ao39 t115.length co39, .int .i64 t118, .slice Ao42 t119.length co42] 25 (0, 0))) ∧ (w'.heap[s_.2.2]? = some (.cells #[.slice none 0 0, .int .i64 0, .slice none 0 0] 25 (0, 0))) ∧ (w.heap.size ≤ s_.2.2) ∧ (w.heap.size ≤ s_.2.2) ∧ (gb108 ≠ s_.2.2) ∧ (s_.2.2 ≠ gb108) ∧ (gb123 ≠ s_.2.2) ∧ (s_.2.2 ≠ gb123) ∧ (Below w.heap.size w w')) ?_ ?_
                     rotate_left
                     ·intro hCont
                      refine two_ (i := 5) (j := 9) (Ni := some 86) (Nj := some 12) #[true, true, true, true, true, true, false, false, false, false, false, false] #[true, true, true, true, true, false, false, false, false, true, false, false] rfl rfl rfl rfl (two_of HT_.out (by kernel_rfl)) (by decide) (by decide) (fun K hK => ?_) (fun K hK => ?_)
                      ·skip
                       refine goes_ Try.func30 (by kernel_rfl) rfl #[.agg #[.slice Ao85 xqa_31.length co85, .int .i64 xqb_31, .slice Ao86 xqc_31.length co86], .agg #[.int .i64 ((rd_T50 x6_31 (ji59)).f0.f0), .int .i64 ((rd_T50 x6_31 (ji59)).f0.f1), .int .i64 ((rd_T50 x6_31 (ji59)).f1)]] (by rfl) rfl rfl (by (try simp only [List.map_toArray, List.map_cons, List.map_nil]); first | done | (simp only [hji59]; rfl) | rfl | (simp only [List.length_drop, List.length_take]; rfl)) ?_
                       with_reducible refine (tree_Delete.calls _ _ xqa_31 xqb_31 _ _ xqc_31 ((rd_T50 x6_31 (ji59)).f0.f0) ((rd_T50 x6_31 (ji59)).f0.f1) ((rd_T50 x6_31 (ji59)).f1) t131 t134 t135 t138 _ ?side1 ?side2 ?side3 ?side4 A62.out).mono ?_
                       (case side1 => exact zc (zX HO_qa.out).2.2)
                       (case side2 => exact (zX HO_qa.out).2.1)
                       (case side3 => exact zc (zX HO_qc.out).2.2)
                       (case side4 => exact (zX HO_qc.out).2.1)
                       rintro e w88 ⟨v132, v136, rfl, ho0, ho1, hb⟩
                       have HS3_ := (hb.cell (zJ _ _ (hHeld.2.2.2.1))).trans (hHeld.2.2.2.1)
                       have HS4_ := (hb.cell (zJ _ _ (hHeld.2.2.2.2.1))).trans (hHeld.2.2.2.2.1)
                       have HS5_ := (hb.cell (zJ _ _ (hHeld.2.2.2.2.2))).trans (hHeld.2.2.2.2.2)
                       refine ⟨_, rfl, ?_⟩
                       have n0_ := zK (zO (zr HO_6.out) hb)
                       have n1_ := zK (yC (zr HO_qa.out) (Kd.R_base ho0) hb)
                       have n2_ := zK (yC (zr HO_qc.out) (Kd.R_base ho1) hb)
                       have n3_ := zK (yC (zr HO_qd.out) (Kd.R_base ho0) hb)
                       have n4_ := zK (yC (zr HO_qe.out) (Kd.R_base ho1) hb)
                       have n5_ := zK (zV (zW (zW ho0 (yB (zr HO_qa.out))) (yB (zr HO_qd.out))) (yG (zl HB.out)))
                       have n6_ := zK (zV (zW (zW ho1 (yB (zr HO_qc.out))) (yB (zr HO_qe.out))) (yG (zl HB.out)))
                       have n7_ := zK (zP (g := gb108) (o := .cells #[.slice Ao85 xqa_31.length co85, .int .i64 xqb_31, .slice Ao86 xqc_31.length co86] 25 (0, 0)) (zb BK108.out) hb)
                       have n8_ := zK (zP (g := gb123) (o := .cells #[.slice Ao39 t115.length co39, .int .i64 t118, .slice Ao42 t119.length co42] 25 (0, 0)) (zb BK123.out) hb)
                       have n9_ := zK (yF (zl HB.out) hb)
                       clear HO_6
                       clear HO_qa
                       clear HO_qc
                       clear HO_qd
                       clear HO_qe
                       clear BK108
                       clear BK123
                       clear HB
                       have HO_6 := n0_
                       have HO_qa := n1_
                       have HO_qc := n2_
                       have HO_qd := n3_
                       have HO_qe := n4_
                       have HO133 := n5_
                       have HO137 := n6_
                       have BK108 := n7_
                       have BK123 := n8_
                       have HB := n9_
                       clear n0_ n1_ n2_ n3_ n4_ n5_ n6_ n7_ n8_ n9_
                       (try clear hb)
                       (try clear hb2)
                       (try clear hk)
                       (try clear hi)
                       (try clear ho0)
                       (try clear ho1)
                       refine hK.out _ _ ⟨(zQ BK108.out 0).trans rfl, (zQ BK108.out 1).trans rfl, (zQ BK108.out 2).trans rfl, HS3_, HS4_, HS5_⟩ (fun hHeld => ?_)
                       clear hK K
                       refine norm_ (a' := ?_) ?_ ?_
                       rotate_left
                       ·show Act.put _ (some 86) _ = _
                        simp only [Act.put, zY, zZ, yA, i64_w, i32_w]
                        rfl
                       refine pure_ (i := 6) (N := some 80) (v := ?_) (a' := ?_) #[true, true, true, true, true, true, true, false, false, false, false, false] rfl rfl (any_of HT_.out (by kernel_rfl)) (fun _ _ _ h => h) (Or.inl ⟨by rfl, ?_⟩) ?_ ?_
                       rotate_left
                       ·intro w'
                        go_simp
                        with_reducible rfl
                       rotate_left
                       ·simp only [Act.put, zY, zZ, yA, i64_w, i32_w]
                        rfl
                       refine pure_ (i := 7) (N := some 87) (v := ?_) (a' := ?_) #[true, true, true, true, true, true, true, true, false, false, false, false] rfl rfl (any_of HT_.out (by kernel_rfl)) (fun _ _ _ h => h) (Or.inl ⟨by rfl, ?_⟩) ?_ ?_
                       rotate_left
                       ·intro w'
                        go_simp
                        with_reducible rfl
                       rotate_left
                       ·simp only [Act.put, zY, zZ, yA, i64_w, i32_w]
                        rfl
                       refine pure_ (i := 8) (N := some 88) (v := ?_) (a' := ?_) #[true, true, true, true, true, true, true, true, true, false, false, false] rfl rfl (any_of HT_.out (by kernel_rfl)) (fun _ _ _ h => h) (Or.inl ⟨by rfl, ?_⟩) ?_ ?_
                       rotate_left
                       ·intro w'
                        go_simp
                        with_reducible rfl
                       rotate_left
                       ·simp only [Act.put, zY, zZ, yA, i64_w, i32_w]
                        rfl
                       refine one_ (i := 9) (N := some 12) #[true, true, true, true, true, true, true, true, true, true, false, false] rfl rfl (one_of HT_.out (by kernel_rfl)) (by decide) (fun K hK => ?_)
                       refine box_step ?hg (N := 12) ?hd (cs := #[.slice none 0 0, .int .i64 0, .slice none 0 0]) (t := 25) ?hr ?_; (case hd => rfl); (case hg => rfl); (case hr => first | (go_simp; done) | (go_simp; rfl))
                       intro gb139 hg w89 hbox hb
                       have HS3_ := (hb.cell (zJ _ _ (hHeld.2.2.2.1))).trans (hHeld.2.2.2.1)
                       have HS4_ := (hb.cell (zJ _ _ (hHeld.2.2.2.2.1))).trans (hHeld.2.2.2.2.1)
                       have HS5_ := (hb.cell (zJ _ _ (hHeld.2.2.2.2.2))).trans (hHeld.2.2.2.2.2)
                       have n0_ := zK (zO (zr HO_6.out) hb)
                       have n1_ := zK (zO (zr HO_qa.out) hb)
                       have n2_ := zK (zO (zr HO_qc.out) hb)
                       have n3_ := zK (zO (zr HO_qd.out) hb)
                       have n4_ := zK (zO (zr HO_qe.out) hb)
                       have n5_ := zK (zO (zr HO133.out) hb)
                       have n6_ := zK (zO (zr HO137.out) hb)
                       have n7_ := zK (zP (g := gb108) (o := .cells #[.slice Ao85 xqa_31.length co85, .int .i64 xqb_31, .slice Ao86 xqc_31.length co86] 25 (0, 0)) (zb BK108.out) hb)
                       have n8_ := zK (zP (g := gb123) (o := .cells #[.slice Ao39 t115.length co39, .int .i64 t118, .slice Ao42 t119.length co42] 25 (0, 0)) (zb BK123.out) hb)
                       have n9_ := zK (yF (zl HB.out) hb)
                       have n10_ := zK (hbox)
                       have n11_ := zK ((by rw [hg]; exact (yG (zl HB.out)) : w.heap.size ≤ gb139))
                       have n12_ := zK ((by rw [hg]; exact (yG (zl HB.out)) : w.heap.size ≤ gb139))
                       have n13_ := zK ((by rw [hg]; exact zN (blk_lt (g := gb108) (o := .cells #[.slice Ao85 xqa_31.length co85, .int .i64 xqb_31, .slice Ao86 xqc_31.length co86] 25 (0, 0)) (zb BK108.out)) : gb108 ≠ gb139))
                       have n14_ := zK ((by rw [hg]; exact Nat.ne_of_gt (blk_lt (g := gb108) (o := .cells #[.slice Ao85 xqa_31.length co85, .int .i64 xqb_31, .slice Ao86 xqc_31.length co86] 25 (0, 0)) (zb BK108.out)) : gb139 ≠ gb108))
                       have n15_ := zK ((by rw [hg]; exact zN (blk_lt (g := gb123) (o := .cells #[.slice Ao39 t115.length co39, .int .i64 t118, .slice Ao42 t119.length co42] 25 (0, 0)) (zb BK123.out)) : gb123 ≠ gb139))
                       have n16_ := zK ((by rw [hg]; exact Nat.ne_of_gt (blk_lt (g := gb123) (o := .cells #[.slice Ao39 t115.length co39, .int .i64 t118, .slice Ao42 t119.length co42] 25 (0, 0)) (zb BK123.out)) : gb139 ≠ gb123))
                       clear HO_6
                       clear HO_qa
                       clear HO_qc
                       clear HO_qd
                       clear HO_qe
                       clear HO133
                       clear HO137
                       clear BK108
                       clear BK123
                       clear HB
                       have HO_6 := n0_
                       have HO_qa := n1_
                       have HO_qc := n2_
                       have HO_qd := n3_
                       have HO_qe := n4_
                       have HO133 := n5_
                       have HO137 := n6_
                       have BK108 := n7_
                       have BK123 := n8_
                       have HB := n9_
                       have BK139 := n10_
                       have GW139 := n11_
                       have GE139 := n12_
                       have NB108_139 := n13_
                       have NB139_108 := n14_
                       have NB123_139 := n15_
                       have NB139_123 := n16_
                       clear n0_ n1_ n2_ n3_ n4_ n5_ n6_ n7_ n8_ n9_ n10_ n11_ n12_ n13_ n14_ n15_ n16_
                       clear hb hbox hg
                       refine hK.out _ _ ⟨(zQ BK108.out 0).trans rfl, (zQ BK108.out 1).trans rfl, (zQ BK108.out 2).trans rfl, HS3_, HS4_, HS5_⟩ (fun hHeld => ?_)
                       clear hK K
                       refine norm_ (a' := ?_) ?_ ?_
                       rotate_left
                       ·show Act.put _ (some 12) _ = _
                        simp only [Act.put, zY, zZ, yA, i64_w, i32_w]
                        rfl
                       exact norm_ (by simp only [putAll, Act.put, zY, zZ, yA]) (hCont (v132, v136, gb139) _ ⟨hHeld, (by (with_reducible repeat (first | apply zA | apply zB | apply zC)); exact Kd.R_mono HO133.out (fun _ hk => ⟨hk.1.2, hk.2⟩)), (by (with_reducible repeat (first | apply zA | apply zB | apply zC)); exact Kd.R_mono HO137.out (fun _ hk => ⟨hk.1.2, hk.2⟩)), (by (with_reducible repeat (first | apply zA | apply zB | apply zC)); exact Kd.R_mono HO_qa.out (fun _ hk => ⟨hk.2, hk.1⟩)), (by (with_reducible repeat (first | apply zA | apply zB | apply zC)); exact Kd.R_mono HO_qc.out (fun _ hk => ⟨hk.2, hk.1⟩)), (by (with_reducible repeat (first | apply zA | apply zB | apply zC)); exact Kd.R_mono HO_qd.out (fun _ hk => ⟨hk.2, hk.1⟩)), (by (with_reducible repeat (first | apply zA | apply zB | apply zC)); exact Kd.R_mono HO_qe.out (fun _ hk => ⟨hk.2, hk.1⟩)), (zr HO_6.out), (zb BK108.out), (zb BK123.out), (zb BK139.out), GW139.out, GE139.out, NB108_139.out, NB139_108.out, NB123_139.out, NB139_123.out, (zl HB.out)⟩)
                      ·skip
                       refine box_step ?hg (N := 12) ?hd (cs := #[.slice none 0 0, .int .i64 0, .slice none 0 0]) (t := 25) ?hr ?_; (case hd => rfl); (case hg => rfl); (case hr => first | (go_simp; done) | (go_simp; rfl))
                       intro gb139 hg w88 hbox hb
                       have HS3_ := (hb.cell (zJ _ _ (hHeld.2.2.2.1))).trans (hHeld.2.2.2.1)
                       have HS4_ := (hb.cell (zJ _ _ (hHeld.2.2.2.2.1))).trans (hHeld.2.2.2.2.1)
                       have HS5_ := (hb.cell (zJ _ _ (hHeld.2.2.2.2.2))).trans (hHeld.2.2.2.2.2)
                       have n0_ := zK (zO (zr HO_6.out) hb)
                       have n1_ := zK (zO (zr HO_qa.out) hb)
                       have n2_ := zK (zO (zr HO_qc.out) hb)
                       have n3_ := zK (zO (zr HO_qd.out) hb)
                       have n4_ := zK (zO (zr HO_qe.out) hb)
                       have n5_ := zK (zP (g := gb108) (o := .cells #[.slice Ao85 xqa_31.length co85, .int .i64 xqb_31, .slice Ao86 xqc_31.length co86] 25 (0, 0)) (zb BK108.out) hb)
                       have n6_ := zK (zP (g := gb123) (o := .cells #[.slice Ao39 t115.length co39, .int .i64 t118, .slice Ao42 t119.length co42] 25 (0, 0)) (zb BK123.out) hb)
                       have n7_ := zK (yF (zl HB.out) hb)
                       have n8_ := zK (hbox)
                       have n9_ := zK ((by rw [hg]; exact (yG (zl HB.out)) : w.heap.size ≤ gb139))
                       have n10_ := zK ((by rw [hg]; exact (yG (zl HB.out)) : w.heap.size ≤ gb139))
                       have n11_ := zK ((by rw [hg]; exact zN (blk_lt (g := gb108) (o := .cells #[.slice Ao85 xqa_31.length co85, .int .i64 xqb_31, .slice Ao86 xqc_31.length co86] 25 (0, 0)) (zb BK108.out)) : gb108 ≠ gb139))
                       have n12_ := zK ((by rw [hg]; exact Nat.ne_of_gt (blk_lt (g := gb108) (o := .cells #[.slice Ao85 xqa_31.length co85, .int .i64 xqb_31, .slice Ao86 xqc_31.length co86] 25 (0, 0)) (zb BK108.out)) : gb139 ≠ gb108))
                       have n13_ := zK ((by rw [hg]; exact zN (blk_lt (g := gb123) (o := .cells #[.slice Ao39 t115.length co39, .int .i64 t118, .slice Ao42 t119.length co42] 25 (0, 0)) (zb BK123.out)) : gb123 ≠ gb139))
                       have n14_ := zK ((by rw [hg]; exact Nat.ne_of_gt (blk_lt (g := gb123) (o := .cells #[.slice Ao39 t115.length co39, .int .i64 t118, .slice Ao42 t119.length co42] 25 (0, 0)) (zb BK123.out)) : gb139 ≠ gb123))
                       clear HO_6
                       clear HO_qa
                       clear HO_qc
                       clear HO_qd
                       clear HO_qe
                       clear BK108
                       clear BK123
                       clear HB
                       have HO_6 := n0_
                       have HO_qa := n1_
                       have HO_qc := n2_
                       have HO_qd := n3_
                       have HO_qe := n4_
                       have BK108 := n5_
                       have BK123 := n6_
                       have HB := n7_
                       have BK139 := n8_
                       have GW139 := n9_
                       have GE139 := n10_
                       have NB108_139 := n11_
                       have NB139_108 := n12_
                       have NB123_139 := n13_
                       have NB139_123 := n14_
                       clear n0_ n1_ n2_ n3_ n4_ n5_ n6_ n7_ n8_ n9_ n10_ n11_ n12_ n13_ n14_
                       clear hb hbox hg
                       refine hK.out _ _ ⟨(zQ BK108.out 0).trans rfl, (zQ BK108.out 1).trans rfl, (zQ BK108.out 2).trans rfl, HS3_, HS4_, HS5_⟩ (fun hHeld => ?_)
                       clear hK K
                       refine norm_ (a' := ?_) ?_ ?_
                       rotate_left
                       ·show Act.put _ (some 12) _ = _
                        simp only [Act.put, zY, zZ, yA, i64_w, i32_w]
                        rfl
                       refine one_ (i := 5) (N := some 86) #[true, true, true, true, true, true, false, false, false, true, false, false] rfl rfl (one_of HT_.out (by kernel_rfl)) (by decide) (fun K hK => ?_)
                       refine goes_ Try.func30 (by kernel_rfl) rfl #[.agg #[.slice Ao85 xqa_31.length co85, .int .i64 xqb_31, .slice Ao86 xqc_31.length co86], .agg #[.int .i64 ((rd_T50 x6_31 (ji59)).f0.f0), .int .i64 ((rd_T50 x6_31 (ji59)).f0.f1), .int .i64 ((rd_T50 x6_31 (ji59)).f1)]] (by rfl) rfl rfl (by (try simp only [List.map_toArray, List.map_cons, List.map_nil]); first | done | (simp only [hji59]; rfl) | rfl | (simp only [List.length_drop, List.length_take]; rfl)) ?_
                       with_reducible refine (tree_Delete.calls _ _ xqa_31 xqb_31 _ _ xqc_31 ((rd_T50 x6_31 (ji59)).f0.f0) ((rd_T50 x6_31 (ji59)).f0.f1) ((rd_T50 x6_31 (ji59)).f1) t131 t134 t135 t138 _ ?side1 ?side2 ?side3 ?side4 A62.out).mono ?_
                       (case side1 => exact zc (zX HO_qa.out).2.2)
                       (case side2 => exact (zX HO_qa.out).2.1)
                       (case side3 => exact zc (zX HO_qc.out).2.2)
                       (case side4 => exact (zX HO_qc.out).2.1)
                       rintro e w89 ⟨v132, v136, rfl, ho0, ho1, hb⟩
                       have HS3_ := (hb.cell (zJ _ _ (hHeld.2.2.2.1))).trans (hHeld.2.2.2.1)
                       have HS4_ := (hb.cell (zJ _ _ (hHeld.2.2.2.2.1))).trans (hHeld.2.2.2.2.1)
                       have HS5_ := (hb.cell (zJ _ _ (hHeld.2.2.2.2.2))).trans (hHeld.2.2.2.2.2)
                       refine ⟨_, rfl, ?_⟩
                       have n0_ := zK (zO (zr HO_6.out) hb)
                       have n1_ := zK (yC (zr HO_qa.out) (Kd.R_base ho0) hb)
                       have n2_ := zK (yC (zr HO_qc.out) (Kd.R_base ho1) hb)
                       have n3_ := zK (yC (zr HO_qd.out) (Kd.R_base ho0) hb)
                       have n4_ := zK (yC (zr HO_qe.out) (Kd.R_base ho1) hb)
                       have n5_ := zK (zV (zW (zW ho0 (yB (zr HO_qa.out))) (yB (zr HO_qd.out))) (yG (zl HB.out)))
                       have n6_ := zK (zV (zW (zW ho1 (yB (zr HO_qc.out))) (yB (zr HO_qe.out))) (yG (zl HB.out)))
                       have n7_ := zK (zP (g := gb108) (o := .cells #[.slice Ao85 xqa_31.length co85, .int .i64 xqb_31, .slice Ao86 xqc_31.length co86] 25 (0, 0)) (zb BK108.out) hb)
                       have n8_ := zK (zP (g := gb123) (o := .cells #[.slice Ao39 t115.length co39, .int .i64 t118, .slice Ao42 t119.length co42] 25 (0, 0)) (zb BK123.out) hb)
                       have n9_ := zK (zP (g := gb139) (o := .cells #[.slice none 0 0, .int .i64 0, .slice none 0 0] 25 (0, 0)) (zb BK139.out) hb)
                       have n10_ := zK (yF (zl HB.out) hb)
                       clear HO_6
                       clear HO_qa
                       clear HO_qc
                       clear HO_qd
                       clear HO_qe
                       clear BK108
                       clear BK123
                       clear BK139
                       clear HB
                       have HO_6 := n0_
                       have HO_qa := n1_
                       have HO_qc := n2_
                       have HO_qd := n3_
                       have HO_qe := n4_
                       have HO133 := n5_
                       have HO137 := n6_
                       have BK108 := n7_
                       have BK123 := n8_
                       have BK139 := n9_
                       have HB := n10_
                       clear n0_ n1_ n2_ n3_ n4_ n5_ n6_ n7_ n8_ n9_ n10_
                       (try clear hb)
                       (try clear hb2)
                       (try clear hk)
                       (try clear hi)
                       (try clear ho0)
                       (try clear ho1)
                       refine hK.out _ _ ⟨(zQ BK108.out 0).trans rfl, (zQ BK108.out 1).trans rfl, (zQ BK108.out 2).trans rfl, HS3_, HS4_, HS5_⟩ (fun hHeld => ?_)
                       clear hK K
                       refine norm_ (a' := ?_) ?_ ?_
                       rotate_left
                       ·show Act.put _ (some 86) _ = _
                        simp only [Act.put, zY, zZ, yA, i64_w, i32_w]
                        rfl
                       refine pure_ (i := 6) (N := some 80) (v := ?_) (a' := ?_) #[true, true, true, true, true, true, true, false, false, true, false, false] rfl rfl (any_of HT_.out (by kernel_rfl)) (fun _ _ _ h => h) (Or.inl ⟨by rfl, ?_⟩) ?_ ?_
                       rotate_left
                       ·intro w'
                        go_simp
                        with_reducible rfl
                       rotate_left
                       ·simp only [Act.put, zY, zZ, yA, i64_w, i32_w]
                        rfl
                       refine pure_ (i := 7) (N := some 87) (v := ?_) (a' := ?_) #[true, true, true, true, true, true, true, true, false, true, false, false] rfl rfl (any_of HT_.out (by kernel_rfl)) (fun _ _ _ h => h) (Or.inl ⟨by rfl, ?_⟩) ?_ ?_
                       rotate_left
                       ·intro w'
                        go_simp
                        with_reducible rfl
                       rotate_left
                       ·simp only [Act.put, zY, zZ, yA, i64_w, i32_w]
                        rfl
                       refine pure_ (i := 8) (N := some 88) (v := ?_) (a' := ?_) #[true, true, true, true, true, true, true, true, true, true, false, false] rfl rfl (any_of HT_.out (by kernel_rfl)) (fun _ _ _ h => h) (Or.inl ⟨by rfl, ?_⟩) ?_ ?_
                       rotate_left
                       ·intro w'
                        go_simp
                        with_reducible rfl
                       rotate_left
                       ·simp only [Act.put, zY, zZ, yA, i64_w, i32_w]
                        rfl
                       exact norm_ (by simp only [putAll, Act.put, zY, zZ, yA]) (hCont (v132, v136, gb139) _ ⟨hHeld, (by (with_reducible repeat (first | apply zA | apply zB | apply zC)); exact Kd.R_mono HO133.out (fun _ hk => ⟨hk.1.2, hk.2⟩)), (by (with_reducible repeat (first | apply zA | apply zB | apply zC)); exact Kd.R_mono HO137.out (fun _ hk => ⟨hk.1.2, hk.2⟩)), (by (with_reducible repeat (first | apply zA | apply zB | apply zC)); exact Kd.R_mono HO_qa.out (fun _ hk => ⟨hk.2, hk.1⟩)), (by (with_reducible repeat (first | apply zA | apply zB | apply zC)); exact Kd.R_mono HO_qc.out (fun _ hk => ⟨hk.2, hk.1⟩)), (by (with_reducible repeat (first | apply zA | apply zB | apply zC)); exact Kd.R_mono HO_qd.out (fun _ hk => ⟨hk.2, hk.1⟩)), (by (with_reducible repeat (first | apply zA | apply zB | apply zC)); exact Kd.R_mono HO_qe.out (fun _ hk => ⟨hk.2, hk.1⟩)), (zr HO_6.out), (zb BK108.out), (zb BK123.out), (zb BK139.out), GW139.out, GE139.out, NB108_139.out, NB139_108.out, NB123_139.out, NB139_123.out, (zl HB.out)⟩)
                     rintro ⟨v132, v136, gb139⟩ w90 ⟨hS_, h0_, h1_, h2_, h3_, h4_, h5_, h6_, h7_, h8_, h9_, h10_, h11_, h12_, h13_, h14_, h15_, h16_⟩
                     have n0_ : Aside0 (Kd.R k64 64 w90 w.heap.size (fun k_ => some k_ ≠ (.slice Ao85 xqa_31.length co85 : Value).ownBlock ∧ some k_ ≠ (.slice Ao39 t115.length co39 : Value).ownBlock) v132 t131) := ⟨h0_⟩
                     have n1_ : Aside0 (Kd.R (Kd.int .i64) 3 w90 w.heap.size (fun k_ => some k_ ≠ (.slice Ao86 xqc_31.length co86 : Value).ownBlock ∧ some k_ ≠ (.slice Ao42 t119.length co42 : Value).ownBlock) v136 t135) := ⟨h1_⟩
                     have n2_ : Aside0 (Kd.R k64 64 w90 w.heap.size (fun k_ => some k_ ≠ (v132 : Value).ownBlock ∧ True) (.slice Ao85 xqa_31.length co85) xqa_31) := ⟨h2_⟩
                     have n3_ : Aside0 (Kd.R (Kd.int .i64) 3 w90 w.heap.size (fun k_ => some k_ ≠ (v136 : Value).ownBlock ∧ True) (.slice Ao86 xqc_31.length co86) xqc_31) := ⟨h3_⟩
                     have n4_ : Aside0 (Kd.R k64 64 w90 w.heap.size (fun k_ => some k_ ≠ (v132 : Value).ownBlock ∧ True) (.slice Ao39 t115.length co39) t115) := ⟨h4_⟩
                     have n5_ : Aside0 (Kd.R (Kd.int .i64) 3 w90 w.heap.size (fun k_ => some k_ ≠ (v136 : Value).ownBlock ∧ True) (.slice Ao42 t119.length co42) t119) := ⟨h5_⟩
                     have n6_ : Aside0 (Kd.R k50 50 w90 w.heap.size (fun _ => True) (.slice (some ad130) x6_31.length co84) x6_31) := ⟨h6_⟩
                     have n7_ : Aside0 (w90.heap[gb108]? = some (.cells #[.slice Ao85 xqa_31.length co85, .int .i64 xqb_31, .slice Ao86 xqc_31.length co86] 25 (0, 0))) := ⟨h7_⟩
                     have n8_ : Aside0 (w90.heap[gb123]? = some (.cells #[.slice Ao39 t115.length co39, .int .i64 t118, .slice Ao42 t119.length co42] 25 (0, 0))) := ⟨h8_⟩
                     have n9_ : Aside0 (w90.heap[gb139]? = some (.cells #[.slice none 0 0, .int .i64 0, .slice none 0 0] 25 (0, 0))) := ⟨h9_⟩
                     have n10_ : Aside0 (w.heap.size ≤ gb139) := ⟨h10_⟩
                     have n11_ : Aside0 (w.heap.size ≤ gb139) := ⟨h11_⟩
                     have n12_ : Aside0 (gb108 ≠ gb139) := ⟨h12_⟩
                     have n13_ : Aside0 (gb139 ≠ gb108) := ⟨h13_⟩
                     have n14_ : Aside0 (gb123 ≠ gb139) := ⟨h14_⟩
                     have n15_ : Aside0 (gb139 ≠ gb123) := ⟨h15_⟩
                     have n16_ : Aside0 (Below w.heap.size w w90) := ⟨h16_⟩
                     clear HO_6
                     clear HO_qa
                     clear HO_qc
                     clear HO_qd
                     clear HO_qe
                     clear BK108
                     clear BK123
                     clear HB
                     clear h0_ h1_ h2_ h3_ h4_ h5_ h6_ h7_ h8_ h9_ h10_ h11_ h12_ h13_ h14_ h15_ h16_
                     have HO133 := n0_
                     have HO137 := n1_
                     have HO_qa := n2_
                     have HO_qc := n3_
                     have HO_qd := n4_
                     have HO_qe := n5_
                     have HO_6 := n6_
                     have BK108 := n7_
                     have BK123 := n8_
                     have BK139 := n9_
                     have GW139 := n10_
                     have GE139 := n11_
                     have NB108_139 := n12_
                     have NB139_108 := n13_
                     have NB123_139 := n14_
                     have NB139_123 := n15_
                     have HB := n16_
                     clear n0_ n1_ n2_ n3_ n4_ n5_ n6_ n7_ n8_ n9_ n10_ n11_ n12_ n13_ n14_ n15_ n16_
                     have hHeld : w90.cell? ⟨gb108, 0, none⟩ = some (.slice Ao85 xqa_31.length co85) ∧ w90.cell? ⟨gb108, 1, none⟩ = some (.int .i64 xqb_31) ∧ w90.cell? ⟨gb108, 2, none⟩ = some (.slice Ao86 xqc_31.length co86) ∧ w90.cell? (ad130.add (((ji59)).toNat * 3)) = some (.int .i64 ((rd_T50 x6_31 (ji59)).f0.f0)) ∧ w90.cell? ⟨(ad130.add (((ji59)).toNat * 3)).block, (ad130.add (((ji59)).toNat * 3)).off + 1, none⟩ = some (.int .i64 ((rd_T50 x6_31 (ji59)).f0.f1)) ∧ w90.cell? ⟨(ad130.add (((ji59)).toNat * 3)).block, (ad130.add (((ji59)).toNat * 3)).off + 2, none⟩ = some (.int .i64 ((rd_T50 x6_31 (ji59)).f1)) := hS_
                     obtain ⟨Ao91, co91, eo91⟩ := yE HO133.out
                     (first | subst eo91 | (injection eo91 with f1_ f2_ f3_; have f4_ := f1_.symm; have f5_ := f3_.symm; clear f1_ f2_ f3_; subst f4_; subst f5_))
                     obtain ⟨Ao94, co94, eo94⟩ := yE HO137.out
                     (first | subst eo94 | (injection eo94 with f1_ f2_ f3_; have f4_ := f1_.symm; have f5_ := f3_.symm; clear f1_ f2_ f3_; subst f4_; subst f5_))
                     refine norm_ (a' := ?_) ?_ ?_
                     rotate_left
                     ·simp only [putAll, Act.put, zY, zZ, yA]
                      rfl
                     refine one_ (i := 10) (N := none) #[true, true, true, true, true, true, true, true, true, true, true, false] rfl rfl (one_of HT_.out (by kernel_rfl)) (by decide) (fun K hK => ?_)
                     have hs92 : w90.cell? ⟨gb139, 0, none⟩ = some (.slice none 0 0) := (zQ BK139.out 0).trans rfl
                     have hfs92 := zR BK139.out 0
                     have hns92_0 := NB108_139.out
                     have hns92_1 := NB123_139.out
                     have hms92_0 := NB139_108.out
                     have hms92_1 := NB139_123.out
                     have hs93 : w90.cell? ⟨gb139, 1, none⟩ = some (.int .i64 0) := (zQ BK139.out 1).trans rfl
                     have hfs93 := zR BK139.out 1
                     have hns93_0 := NB108_139.out
                     have hns93_1 := NB123_139.out
                     have hms93_0 := NB139_108.out
                     have hms93_1 := NB139_123.out
                     have hs95 : w90.cell? ⟨gb139, 2, none⟩ = some (.slice none 0 0) := (zQ BK139.out 2).trans rfl
                     have hfs95 := zR BK139.out 2
                     have hns95_0 := NB108_139.out
                     have hns95_1 := NB123_139.out
                     have hms95_0 := NB139_108.out
                     have hms95_1 := NB139_123.out
                     refine skip_ (w1 := ?_) (by rfl) rfl ?_ ?_
                     rotate_left
                     ·go_simp
                      rfl
                     refine hK.out _ _ ⟨((cell_far (p := ⟨gb139, _, none⟩) NB108_139.out _).trans (((cell_far (p := ⟨gb139, _, none⟩) NB108_139.out _).trans (((cell_far (p := ⟨gb139, _, none⟩) NB108_139.out _).trans (hHeld.1)))))), ((cell_far (p := ⟨gb139, _, none⟩) NB108_139.out _).trans (((cell_far (p := ⟨gb139, _, none⟩) NB108_139.out _).trans (((cell_far (p := ⟨gb139, _, none⟩) NB108_139.out _).trans (hHeld.2.1)))))), ((cell_far (p := ⟨gb139, _, none⟩) NB108_139.out _).trans (((cell_far (p := ⟨gb139, _, none⟩) NB108_139.out _).trans (((cell_far (p := ⟨gb139, _, none⟩) NB108_139.out _).trans (hHeld.2.2.1)))))), ((cell_far (p := ⟨gb139, _, none⟩) (by first | exact Kd.own_blk (Kd.R_ne HO_6.out BK139.out (by decide)) | (rw [add_block]; exact Kd.own_blk (Kd.R_ne HO_6.out BK139.out (by decide))) | (show (Addr.add _ _).block ≠ _; rw [add_block]; exact Kd.own_blk (Kd.R_ne HO_6.out BK139.out (by decide))) | (dsimp only; exact Kd.own_blk (Kd.R_ne HO_6.out BK139.out (by decide)))) _).trans (((cell_far (p := ⟨gb139, _, none⟩) (by first | exact Kd.own_blk (Kd.R_ne HO_6.out BK139.out (by decide)) | (rw [add_block]; exact Kd.own_blk (Kd.R_ne HO_6.out BK139.out (by decide))) | (show (Addr.add _ _).block ≠ _; rw [add_block]; exact Kd.own_blk (Kd.R_ne HO_6.out BK139.out (by decide))) | (dsimp only; exact Kd.own_blk (Kd.R_ne HO_6.out BK139.out (by decide)))) _).trans (((cell_far (p := ⟨gb139, _, none⟩) (by first | exact Kd.own_blk (Kd.R_ne HO_6.out BK139.out (by decide)) | (rw [add_block]; exact Kd.own_blk (Kd.R_ne HO_6.out BK139.out (by decide))) | (show (Addr.add _ _).block ≠ _; rw [add_block]; exact Kd.own_blk (Kd.R_ne HO_6.out BK139.out (by decide))) | (dsimp only; exact Kd.own_blk (Kd.R_ne HO_6.out BK139.out (by decide)))) _).trans (hHeld.2.2.2.1)))))), ((cell_far (p := ⟨gb139, _, none⟩) (by first | exact Kd.own_blk (Kd.R_ne HO_6.out BK139.out (by decide)) | (rw [add_block]; exact Kd.own_blk (Kd.R_ne HO_6.out BK139.out (by decide))) | (show (Addr.add _ _).block ≠ _; rw [add_block]; exact Kd.own_blk (Kd.R_ne HO_6.out BK139.out (by decide))) | (dsimp only; exact Kd.own_blk (Kd.R_ne HO_6.out BK139.out (by decide)))) _).trans (((cell_far (p := ⟨gb139, _, none⟩) (by first | exact Kd.own_blk (Kd.R_ne HO_6.out BK139.out (by decide)) | (rw [add_block]; exact Kd.own_blk (Kd.R_ne HO_6.out BK139.out (by decide))) | (show (Addr.add _ _).block ≠ _; rw [add_block]; exact Kd.own_blk (Kd.R_ne HO_6.out BK139.out (by decide))) | (dsimp only; exact Kd.own_blk (Kd.R_ne HO_6.out BK139.out (by decide)))) _).trans (((cell_far (p := ⟨gb139, _, none⟩) (by first | exact Kd.own_blk (Kd.R_ne HO_6.out BK139.out (by decide)) | (rw [add_block]; exact Kd.own_blk (Kd.R_ne HO_6.out BK139.out (by decide))) | (show (Addr.add _ _).block ≠ _; rw [add_block]; exact Kd.own_blk (Kd.R_ne HO_6.out BK139.out (by decide))) | (dsimp only; exact Kd.own_blk (Kd.R_ne HO_6.out BK139.out (by decide)))) _).trans (hHeld.2.2.2.2.1)))))), ((cell_far (p := ⟨gb139, _, none⟩) (by first | exact Kd.own_blk (Kd.R_ne HO_6.out BK139.out (by decide)) | (rw [add_block]; exact Kd.own_blk (Kd.R_ne HO_6.out BK139.out (by decide))) | (show (Addr.add _ _).block ≠ _; rw [add_block]; exact Kd.own_blk (Kd.R_ne HO_6.out BK139.out (by decide))) | (dsimp only; exact Kd.own_blk (Kd.R_ne HO_6.out BK139.out (by decide)))) _).trans (((cell_far (p := ⟨gb139, _, none⟩) (by first | exact Kd.own_blk (Kd.R_ne HO_6.out BK139.out (by decide)) | (rw [add_block]; exact Kd.own_blk (Kd.R_ne HO_6.out BK139.out (by decide))) | (show (Addr.add _ _).block ≠ _; rw [add_block]; exact Kd.own_blk (Kd.R_ne HO_6.out BK139.out (by decide))) | (dsimp only; exact Kd.own_blk (Kd.R_ne HO_6.out BK139.out (by decide)))) _).trans (((cell_far (p := ⟨gb139, _, none⟩) (by first | exact Kd.own_blk (Kd.R_ne HO_6.out BK139.out (by decide)) | (rw [add_block]; exact Kd.own_blk (Kd.R_ne HO_6.out BK139.out (by decide))) | (show (Addr.add _ _).block ≠ _; rw [add_block]; exact Kd.own_blk (Kd.R_ne HO_6.out BK139.out (by decide))) | (dsimp only; exact Kd.own_blk (Kd.R_ne HO_6.out BK139.out (by decide)))) _).trans (hHeld.2.2.2.2.2))))))⟩ (fun hHeld => ?_)
                     clear hK K
                     refine pure_ (i := 11) (N := some 13) (v := ?_) (a' := ?_) #[true, true, true, true, true, true, true, true, true, true, true, true] rfl rfl (any_of HT_.out (by kernel_rfl)) (fun _ _ _ h => h) (Or.inl ⟨by rfl, ?_⟩) ?_ ?_
                     rotate_left
                     ·intro w'
                      go_simp
                      with_reducible rfl
                     rotate_left
                     ·simp only [Act.put, zY, zZ, yA, i64_w, i32_w]
                      rfl
                     refine done_ (done_of HT_.out (by kernel_rfl)) ?_
                     try go_wp2_with (first | ((with_reducible refine gate_callee (f := 19) rfl ?_); refine goesL_ (some 90) rfl rfl Try.func19 (by kernel_rfl) rfl #[.int .i64 t138] rfl zt ?_; (with_reducible refine (tollbarlaw0_Num.calls t138 t140 _ A63.out).mono ?_); rintro e w' ⟨rfl, ⟨nd, rfl⟩⟩; refine ⟨_, rfl, ?_⟩))
                     go_ret
                     exact ⟨by first | rfl | (simp [errW_none, errW_some] <;> rfl) | (simp only [← hji59]; first | rfl | (simp [errW_none, errW_some] <;> rfl)) | (simp [*, errW_none, errW_some] <;> rfl), zl HB.out⟩
                   ·rw [if_neg c61] at H
                    exact absurd H (by simp)
                  ·rw [if_neg c60] at H
                   exact absurd H (by simp)
                ·rw [if_neg c57] at H
                 exact absurd H (by simp)
               ·rw [if_neg c56] at H
                exact absurd H (by simp)
              ·replace c55 := Bool.eq_false_iff.mpr c55
               subst c55
               have H1 : (tollbarlaw17_TreeGrows.j4 kj50 l0 l1 x6_31 x7_1 xqa_31 xqb_31 xqc_31) = some r := by rw [if_neg (show ¬ (false = true) by decide)] at H; exact H
               clear H
               have H := H1
               clear H1
               have H' := zK H
               clear H
               go_wp2
               go_meet
               case rel => exact ⟨_, (x6_31), (xqa_31), (xqb_31), (xqc_31), (uqa), (uqc), H', ⟨by have := HK1.out; have := HJ9.out; have := HJ31.out; have := HJ50.out; first | omega | exact Nat.le_refl _⟩, ⟨by (with_reducible repeat (first | apply zA | apply zB | apply zC)); exact HO_6.out⟩, ⟨by (with_reducible repeat (first | apply zA | apply zB | apply zC)); exact HO_qa.out⟩, ⟨by (with_reducible repeat (first | apply zA | apply zB | apply zC)); exact HO_qc.out⟩, ⟨by (with_reducible repeat (first | apply zA | apply zB | apply zC)); exact HO_qd.out⟩, ⟨by (with_reducible repeat (first | apply zA | apply zB | apply zC)); exact HO_qe.out⟩, ⟨by (with_reducible repeat (first | refine zD ?_ _ | refine zE ?_ | refine zF ?_ _)); exact BK108.out⟩, ⟨by (with_reducible repeat (first | refine zD ?_ _ | refine zE ?_ | refine zF ?_ _)); exact BK123.out⟩, ⟨by repeat (first | (with_reducible first | exact HB.out | apply zG | apply zH | apply zI | refine zL ?_ GE108.out | refine zL ?_ GE123.out) | exact HB.out)⟩⟩
             case rest =>
              clear HC54
              try clear c1
              try clear p1
              try clear q1
              try clear hx1
              try clear p2
              try clear c3
              try clear c5
              try clear c6
              try clear c7
              try clear c8
              try clear p12
              try clear q12
              try clear hx12
              try clear p13
              try clear q13
              try clear hx13
              try clear p14
              try clear q14
              try clear hx14
              try clear c19
              try clear c30
              try clear c32
              try clear c55
              try clear c56
              try clear c57
              try clear c60
              try clear c61
              try clear c64
              try clear c64b0
              try clear c64b1
              try clear c79
              try clear c80
              try clear c82
              try clear hcz81_0
              try clear hcz81_1
              try clear hcz81_2
              try clear hcz83_0
              try clear hcz83_1
              try clear hcz83_2
              try clear hfz81_0
              try clear hfz81_1
              try clear hfz81_2
              try clear hfz83_0
              try clear hfz83_1
              try clear hfz83_2
              try clear hx129_0
              try clear hx130_0
              try clear hx130_1
              try clear hx130_2
              try clear hx141_0
              try clear hx141_1
              try clear hx141_2
              try clear p129
              try clear p130
              try clear p141
              try clear q129
              try clear q130
              try clear q141
              obtain ⟨kq, x6_53, xqa_53, xqb_53, xqc_53, uqa, uqc, HA, HJ53, HO_6, HO_qa, HO_qc, HO_qd, HO_qe, BK108, BK123, HB⟩ := hcut
              cases kq with
              | zero => exact absurd HA.out (by simp [tollbarlaw17_TreeGrows.j4])
              | succ kj53 =>
               have H := HA.out
               clear HA
               simp only [tollbarlaw17_TreeGrows.j4] at H
               replace H := yH.mp H
               obtain ⟨⟨t145, t148⟩, A960, H⟩ := H
               replace H : (if t148 = true then ((tollbarlaw0_SameItems.f kj53 t145 x6_53).bind fun t149 => (if t149 = true then (tollbarlaw17_TreeGrows.l0 kj53 l0 l1 x6_53 (wrap64 (x7_1 + 1)) xqa_53 xqb_53 xqc_53) else (some false))) else (some false)) = some r := H
               have A96 := zK A960
               clear A960
               by_cases c97 : t148 = true
               ·subst c97
                have H1 : ((tollbarlaw0_SameItems.f kj53 t145 x6_53).bind fun t149 => (if t149 = true then (tollbarlaw17_TreeGrows.l0 kj53 l0 l1 x6_53 (wrap64 (x7_1 + 1)) xqa_53 xqb_53 xqc_53) else (some false))) = some r := by rw [if_pos rfl] at H; exact H
                clear H
                have H := H1
                clear H1
                replace H := yH.mp H
                obtain ⟨t149, A980, H⟩ := H
                replace H : (if t149 = true then (tollbarlaw17_TreeGrows.l0 kj53 l0 l1 x6_53 (wrap64 (x7_1 + 1)) xqa_53 xqb_53 xqc_53) else (some false)) = some r := H
                have A98 := zK A980
                clear A980
                by_cases c99 : t149 = true
                ·subst c99
                 have H1 : (tollbarlaw17_TreeGrows.l0 kj53 l0 l1 x6_53 (wrap64 (x7_1 + 1)) xqa_53 xqb_53 xqc_53) = some r := by rw [if_pos rfl] at H; exact H
                 clear H
                 have H := H1
                 clear H1
                 have H' := zK H
                 clear H
                 have hnb100 := NB108_123.out
                 have hnc100 := NB123_108.out
                 have hcz101_0 : wc.cell? ⟨gb108, 0, none⟩ = some (uqa) := (zQ BK108.out 0).trans rfl
                 have hcz101_1 : wc.cell? ⟨gb108, 1, none⟩ = some (.int .i64 xqb_53) := (zQ BK108.out 1).trans rfl
                 have hcz101_2 : wc.cell? ⟨gb108, 2, none⟩ = some (uqc) := (zQ BK108.out 2).trans rfl
                 have hfz101_0 := zR BK108.out 0
                 have hfz101_1 := zR BK108.out 1
                 have hfz101_2 := zR BK108.out 2
                 obtain ⟨Ao102, co102, eo102⟩ := yE HO_qa.out
                 subst eo102
                 obtain ⟨Ao103, co103, eo103⟩ := yE HO_qc.out
                 subst eo103
                 go_wp2_with (first | ((with_reducible refine gate_callee (f := 12) rfl ?_); refine goesL_ (some 101) rfl rfl Try.func12 (by kernel_rfl) rfl #[.agg #[.slice Ao102 xqa_53.length co102, .int .i64 xqb_53, .slice Ao103 xqc_53.length co103]] rfl zt ?_; (with_reducible refine (tollbarref17_All.calls kj53 _ _ xqa_53 xqb_53 _ _ xqc_53 t145 true _ ?side1 ?side2 ?side3 ?side4 A96.out).mono ?_); (case side1 => exact zc (zX HO_qa.out).2.2); (case side2 => exact (zX HO_qa.out).2.1); (case side3 => exact zc (zX HO_qc.out).2.2); (case side4 => exact (zX HO_qc.out).2.1); rintro e w104 ⟨v146, rfl, ho0, hb⟩; refine ⟨_, rfl, ?_⟩; have n0_ := zK (yC (zr HO_6.out) (Kd.R_base ho0) hb); have n1_ := zK (zO (zr HO_qa.out) hb); have n2_ := zK (zO (zr HO_qc.out) hb); have n3_ := zK (zO (zr HO_qd.out) hb); have n4_ := zK (zO (zr HO_qe.out) hb); have n5_ := zK (zV (zW ho0 (yB (zr HO_6.out))) (yG (zl HB.out))); have n6_ := zK (zP (g := gb108) (o := .cells #[.slice Ao102 xqa_53.length co102, .int .i64 xqb_53, .slice Ao103 xqc_53.length co103] 25 (0, 0)) (zb BK108.out) hb); have n7_ := zK (zP (g := gb123) (o := .cells #[.slice Ao39 t115.length co39, .int .i64 t118, .slice Ao42 t119.length co42] 25 (0, 0)) (zb BK123.out) hb); have n8_ := zK (yF (zl HB.out) hb); clear HO_6; clear HO_qa; clear HO_qc; clear HO_qd; clear HO_qe; clear BK108; clear BK123; clear HB; have HO_6 := n0_; have HO_qa := n1_; have HO_qc := n2_; have HO_qd := n3_; have HO_qe := n4_; have HO147 := n5_; have BK108 := n6_; have BK123 := n7_; have HB := n8_; clear n0_ n1_ n2_ n3_ n4_ n5_ n6_ n7_ n8_; (try clear hb); (try clear hb2); (try clear hk); (try clear hi); (try clear ho0); obtain ⟨Ao105, co105, eo105⟩ := yE HO147.out; subst eo105; obtain ⟨Ao106, co106, eo106⟩ := yE HO_6.out; subst eo106) | (go_at_call 20; (with_reducible refine (tollbarlaw0_SameItems.calls kj53 _ _ t145 _ _ x6_53 true _ ?side1 ?side2 ?side3 ?side4 A98.out).mono ?_); (case side1 => exact zc (zX HO147.out).2.2); (case side2 => exact (zX HO147.out).2.1); (case side3 => exact zc (zX HO_6.out).2.2); (case side4 => exact (zX HO_6.out).2.1); rintro e w' ⟨rfl, ⟨nd, rfl⟩⟩))
                 go_roundg kj53
                 case measure => have := HK1.out; have := HJ9.out; have := HJ31.out; have := HJ50.out; have := HJ53.out; omega
                 case rel => exact ⟨(x6_53), (wrap64 (x7_1 + 1)), (xqa_53), (xqb_53), (xqc_53), (.slice Ao102 xqa_53.length co102), (.slice Ao103 xqc_53.length co103), zz, H', ⟨by have := HK1.out; have := HJ9.out; have := HJ31.out; have := HJ50.out; have := HJ53.out; omega⟩, ⟨by (with_reducible repeat (first | apply zA | apply zB | apply zC)); exact Kd.R_mono HO_6.out (fun _ _ => by trivial)⟩, ⟨by (with_reducible repeat (first | apply zA | apply zB | apply zC)); exact Kd.R_mono HO_qa.out (fun _ _ => by trivial)⟩, ⟨by (with_reducible repeat (first | apply zA | apply zB | apply zC)); exact Kd.R_mono HO_qc.out (fun _ _ => by trivial)⟩, ⟨by (with_reducible repeat (first | refine zD ?_ _ | refine zE ?_ | refine zF ?_ _)); exact BK108.out⟩, ⟨by repeat (first | (with_reducible first | exact HB.out | apply zG | apply zH | apply zI | refine zL ?_ GE108.out | refine zL ?_ GE123.out) | exact HB.out)⟩⟩
                ·replace c99 := Bool.eq_false_iff.mpr c99
                 subst c99
                 have H1 : (some false) = some r := by rw [if_neg (show ¬ (false = true) by decide)] at H; exact H
                 clear H
                 have H := H1
                 clear H1
                 obtain rfl := Option.some.inj H
                 have hnb107 := NB108_123.out
                 have hnc107 := NB123_108.out
                 have hcz108_0 : wc.cell? ⟨gb108, 0, none⟩ = some (uqa) := (zQ BK108.out 0).trans rfl
                 have hcz108_1 : wc.cell? ⟨gb108, 1, none⟩ = some (.int .i64 xqb_53) := (zQ BK108.out 1).trans rfl
                 have hcz108_2 : wc.cell? ⟨gb108, 2, none⟩ = some (uqc) := (zQ BK108.out 2).trans rfl
                 have hfz108_0 := zR BK108.out 0
                 have hfz108_1 := zR BK108.out 1
                 have hfz108_2 := zR BK108.out 2
                 obtain ⟨Ao109, co109, eo109⟩ := yE HO_qa.out
                 subst eo109
                 obtain ⟨Ao110, co110, eo110⟩ := yE HO_qc.out
                 subst eo110
                 go_wp2_with (first | ((with_reducible refine gate_callee (f := 12) rfl ?_); refine goesL_ (some 101) rfl rfl Try.func12 (by kernel_rfl) rfl #[.agg #[.slice Ao109 xqa_53.length co109, .int .i64 xqb_53, .slice Ao110 xqc_53.length co110]] rfl zt ?_; (with_reducible refine (tollbarref17_All.calls kj53 _ _ xqa_53 xqb_53 _ _ xqc_53 t145 true _ ?side1 ?side2 ?side3 ?side4 A96.out).mono ?_); (case side1 => exact zc (zX HO_qa.out).2.2); (case side2 => exact (zX HO_qa.out).2.1); (case side3 => exact zc (zX HO_qc.out).2.2); (case side4 => exact (zX HO_qc.out).2.1); rintro e w111 ⟨v146, rfl, ho0, hb⟩; refine ⟨_, rfl, ?_⟩; have n0_ := zK (yC (zr HO_6.out) (Kd.R_base ho0) hb); have n1_ := zK (zO (zr HO_qa.out) hb); have n2_ := zK (zO (zr HO_qc.out) hb); have n3_ := zK (zO (zr HO_qd.out) hb); have n4_ := zK (zO (zr HO_qe.out) hb); have n5_ := zK (zV (zW ho0 (yB (zr HO_6.out))) (yG (zl HB.out))); have n6_ := zK (zP (g := gb108) (o := .cells #[.slice Ao109 xqa_53.length co109, .int .i64 xqb_53, .slice Ao110 xqc_53.length co110] 25 (0, 0)) (zb BK108.out) hb); have n7_ := zK (zP (g := gb123) (o := .cells #[.slice Ao39 t115.length co39, .int .i64 t118, .slice Ao42 t119.length co42] 25 (0, 0)) (zb BK123.out) hb); have n8_ := zK (yF (zl HB.out) hb); clear HO_6; clear HO_qa; clear HO_qc; clear HO_qd; clear HO_qe; clear BK108; clear BK123; clear HB; have HO_6 := n0_; have HO_qa := n1_; have HO_qc := n2_; have HO_qd := n3_; have HO_qe := n4_; have HO147 := n5_; have BK108 := n6_; have BK123 := n7_; have HB := n8_; clear n0_ n1_ n2_ n3_ n4_ n5_ n6_ n7_ n8_; (try clear hb); (try clear hb2); (try clear hk); (try clear hi); (try clear ho0); obtain ⟨Ao112, co112, eo112⟩ := yE HO147.out; subst eo112; obtain ⟨Ao113, co113, eo113⟩ := yE HO_6.out; subst eo113) | (go_at_call 20; (with_reducible refine (tollbarlaw0_SameItems.calls kj53 _ _ t145 _ _ x6_53 false _ ?side1 ?side2 ?side3 ?side4 A98.out).mono ?_); (case side1 => exact zc (zX HO147.out).2.2); (case side2 => exact (zX HO147.out).2.1); (case side3 => exact zc (zX HO_6.out).2.2); (case side4 => exact (zX HO_6.out).2.1); rintro e w' ⟨rfl, ⟨nd, rfl⟩⟩))
                 go_ret
                 exact ⟨ze, zl HB.out⟩
               ·replace c97 := Bool.eq_false_iff.mpr c97
                subst c97
                have H1 : (some false) = some r := by rw [if_neg (show ¬ (false = true) by decide)] at H; exact H
                clear H
                have H := H1
                clear H1
                obtain rfl := Option.some.inj H
                have hnb114 := NB108_123.out
                have hnc114 := NB123_108.out
                have hcz115_0 : wc.cell? ⟨gb108, 0, none⟩ = some (uqa) := (zQ BK108.out 0).trans rfl
                have hcz115_1 : wc.cell? ⟨gb108, 1, none⟩ = some (.int .i64 xqb_53) := (zQ BK108.out 1).trans rfl
                have hcz115_2 : wc.cell? ⟨gb108, 2, none⟩ = some (uqc) := (zQ BK108.out 2).trans rfl
                have hfz115_0 := zR BK108.out 0
                have hfz115_1 := zR BK108.out 1
                have hfz115_2 := zR BK108.out 2
                obtain ⟨Ao116, co116, eo116⟩ := yE HO_qa.out
                subst eo116
                obtain ⟨Ao117, co117, eo117⟩ := yE HO_qc.out
                subst eo117
                go_wp2_with (first | ((with_reducible refine gate_callee (f := 12) rfl ?_); refine goesL_ (some 101) rfl rfl Try.func12 (by kernel_rfl) rfl #[.agg #[.slice Ao116 xqa_53.length co116, .int .i64 xqb_53, .slice Ao117 xqc_53.length co117]] rfl zt ?_; (with_reducible refine (tollbarref17_All.calls kj53 _ _ xqa_53 xqb_53 _ _ xqc_53 t145 false _ ?side1 ?side2 ?side3 ?side4 A96.out).mono ?_); (case side1 => exact zc (zX HO_qa.out).2.2); (case side2 => exact (zX HO_qa.out).2.1); (case side3 => exact zc (zX HO_qc.out).2.2); (case side4 => exact (zX HO_qc.out).2.1); rintro e w118 ⟨v146, rfl, ho0, hb⟩; refine ⟨_, rfl, ?_⟩; have n0_ := zK (yC (zr HO_6.out) (Kd.R_base ho0) hb); have n1_ := zK (zO (zr HO_qa.out) hb); have n2_ := zK (zO (zr HO_qc.out) hb); have n3_ := zK (zO (zr HO_qd.out) hb); have n4_ := zK (zO (zr HO_qe.out) hb); have n5_ := zK (zV (zW ho0 (yB (zr HO_6.out))) (yG (zl HB.out))); have n6_ := zK (zP (g := gb108) (o := .cells #[.slice Ao116 xqa_53.length co116, .int .i64 xqb_53, .slice Ao117 xqc_53.length co117] 25 (0, 0)) (zb BK108.out) hb); have n7_ := zK (zP (g := gb123) (o := .cells #[.slice Ao39 t115.length co39, .int .i64 t118, .slice Ao42 t119.length co42] 25 (0, 0)) (zb BK123.out) hb); have n8_ := zK (yF (zl HB.out) hb); clear HO_6; clear HO_qa; clear HO_qc; clear HO_qd; clear HO_qe; clear BK108; clear BK123; clear HB; have HO_6 := n0_; have HO_qa := n1_; have HO_qc := n2_; have HO_qd := n3_; have HO_qe := n4_; have HO147 := n5_; have BK108 := n6_; have BK123 := n7_; have HB := n8_; clear n0_ n1_ n2_ n3_ n4_ n5_ n6_ n7_ n8_; (try clear hb); (try clear hb2); (try clear hk); (try clear hi); (try clear ho0)))
                go_ret
                exact ⟨ze, zl HB.out⟩
        ·rw [if_neg c31] at H
         have c31b0 : (t124 == x8_9) = false := yK.mpr c31
         have c31b1 : (t124 != x8_9) = true := yL.mpr c31
         obtain rfl := Option.some.inj H
         obtain ⟨Ao119, co119, eo119⟩ := yE HO_qa.out
         subst eo119
         obtain ⟨Ao120, co120, eo120⟩ := yE HO_qc.out
         subst eo120
         try go_wp2
         have n0_ := zK (zC HO_6.out)
         have n1_ := zK (zC HO_qa.out)
         have n2_ := zK (zC HO_qc.out)
         have n3_ := zK (zE BK108.out)
         have n4_ := zK (zI HB.out)
         clear HO_6
         clear HO_qa
         clear HO_qc
         clear BK108
         clear HB
         have HO_6 := n0_
         have HO_qa := n1_
         have HO_qc := n2_
         have BK108 := n3_
         have HB := n4_
         clear n0_ n1_ n2_ n3_ n4_
         have p114 : 0 ≤ (x7_1 : Int) := of_decide_eq_true (by first | (with_reducible assumption) | assumption)
         have q114 : x7_1 < (l0.length : Int) := of_decide_eq_true (by first | (with_reducible assumption) | assumption)
         obtain ⟨ad114, e114, hx114_0, hx114_1, hx114_2⟩ := at_T50 HR0.out x7_1 p114 q114
         have hw114_2 := hx114_2
         have hw114_1 := hx114_1
         have hw114_0 := hx114_0
         cases e114
         replace hx114_0 := (HB.out.cell (zJ w _ hx114_0)).trans hx114_0
         replace hx114_1 := (HB.out.cell (zJ w _ hx114_1)).trans hx114_1
         replace hx114_2 := (HB.out.cell (zJ w _ hx114_2)).trans hx114_2
         replace p114 := eq_true p114
         replace q114 := eq_true q114
         refine start_ (n := 12) (S := fun w' => w'.cell? ⟨gb108, 0, none⟩ = some (.slice Ao119 xqa_1.length co119) ∧ w'.cell? ⟨gb108, 1, none⟩ = some (.int .i64 xqb_1) ∧ w'.cell? ⟨gb108, 2, none⟩ = some (.slice Ao120 xqc_1.length co120) ∧ w'.cell? (ad114.add ((x7_1).toNat * 3)) = some (.int .i64 ((rd_T50 l0 x7_1).f0.f0)) ∧ w'.cell? ⟨(ad114.add ((x7_1).toNat * 3)).block, (ad114.add ((x7_1).toNat * 3)).off + 1, none⟩ = some (.int .i64 ((rd_T50 l0 x7_1).f0.f1)) ∧ w'.cell? ⟨(ad114.add ((x7_1).toNat * 3)).block, (ad114.add ((x7_1).toNat * 3)).off + 2, none⟩ = some (.int .i64 ((rd_T50 l0 x7_1).f1))) (ds := []) #[false, false, false, false, false, false, false, false, false, false, false, false] (by kernel_rfl) rfl rfl ⟨(zQ BK108.out 0).trans rfl, (zQ BK108.out 1).trans rfl, (zQ BK108.out 2).trans rfl, ((HB.out.cell (zJ w _ hw114_0)).trans hw114_0), ((HB.out.cell (zJ w _ hw114_1)).trans hw114_1), ((HB.out.cell (zJ w _ hw114_2)).trans hw114_2)⟩ (fun hHeld => ?_); refine with_tabW tollbarlaw17_TreeGrows.tab13 tollbarlaw17_TreeGrows.bits13 (fun HT_ HW_ => ?_)
         generalize wc.drew = w121 at HO_6 HO_qa HO_qc BK108 HB hx114_0 hx114_1 hx114_2 hHeld ⊢
         refine pure_ (i := 1) (N := some 43) (v := ?_) (a' := ?_) #[false, true, false, false, false, false, false, false, false, false, false, false] rfl rfl (any_of HT_.out (by kernel_rfl)) (fun _ _ _ h => h) (Or.inl ⟨by rfl, ?_⟩) ?_ ?_
         rotate_left
         ·intro w'
          go_simp
          with_reducible rfl
         rotate_left
         ·simp only [Act.put, zY, zZ, yA, i64_w, i32_w]
          rfl
         refine pure_ (i := 2) (N := some 44) (v := ?_) (a' := ?_) #[false, true, true, false, false, false, false, false, false, false, false, false] rfl rfl (any_of HT_.out (by kernel_rfl)) (fun _ _ _ h => h) (Or.inl ⟨by rfl, ?_⟩) ?_ ?_
         rotate_left
         ·intro w'
          go_simp
          with_reducible rfl
         rotate_left
         ·simp only [Act.put, zY, zZ, yA, i64_w, i32_w]
          rfl
         refine pure_ (i := 3) (N := some 45) (v := ?_) (a' := ?_) #[false, true, true, true, false, false, false, false, false, false, false, false] rfl rfl (any_of HT_.out (by kernel_rfl)) (fun _ _ _ h => h) (Or.inl ⟨by rfl, ?_⟩) ?_ ?_
         rotate_left
         ·intro w'
          go_simp
          with_reducible rfl
         rotate_left
         ·simp only [Act.put, zY, zZ, yA, i64_w, i32_w]
          rfl
         refine take_ (i := 0) (N := some 42) (v := ?_) (a' := ?_) #[true, true, true, true, false, false, false, false, false, false, false, false] rfl rfl (take_ofW HT_.out HW_.out (by kernel_rfl)) (fun _ _ _ h => h) (Or.inl ⟨by rfl, ?_⟩) hHeld ?_ ?_
         rotate_left
         ·rintro w' ⟨s0, s1, s2, s3, s4, s5⟩
          go_simp
          with_reducible rfl
         rotate_left
         ·simp only [Act.put, zY, zZ, yA, i64_w, i32_w]
          rfl
         refine take_ (i := 4) (N := some 46) (v := ?_) (a' := ?_) #[true, true, true, true, true, false, false, false, false, false, false, false] rfl rfl (take_ofW HT_.out HW_.out (by kernel_rfl)) (fun _ _ _ h => h) (Or.inl ⟨by rfl, ?_⟩) hHeld ?_ ?_
         rotate_left
         ·rintro w' ⟨s0, s1, s2, s3, s4, s5⟩
          go_simp
          with_reducible rfl
         rotate_left
         ·simp only [Act.put, zY, zZ, yA, i64_w, i32_w]
          rfl
         refine join_ (σ := Value × Value × Nat) 2 #[true, true, true, true, true, true, true, true, true, true, false, false] (fun s_ => [(47, .tuple #[.agg #[s_.1, .int .i64 t118, s_.2.1], .int .i64 t122]), (9, .pointer (some ⟨s_.2.2, 0, none⟩)), (41, .tuple #[.agg #[s_.1, .int .i64 t118, s_.2.1], .int .i64 t122]), (48, .agg #[s_.1, .int .i64 t118, s_.2.1]), (49, .int .i64 t122)]) (fun s_ w' => (w'.cell? ⟨gb108, 0, none⟩ = some (.slice Ao119 xqa_1.length co119) ∧ w'.cell? ⟨gb108, 1, none⟩ = some (.int .i64 xqb_1) ∧ w'.cell? ⟨gb108, 2, none⟩ = some (.slice Ao120 xqc_1.length co120) ∧ w'.cell? (ad114.add ((x7_1).toNat * 3)) = some (.int .i64 ((rd_T50 l0 x7_1).f0.f0)) ∧ w'.cell? ⟨(ad114.add ((x7_1).toNat * 3)).block, (ad114.add ((x7_1).toNat * 3)).off + 1, none⟩ = some (.int .i64 ((rd_T50 l0 x7_1).f0.f1)) ∧ w'.cell? ⟨(ad114.add ((x7_1).toNat * 3)).block, (ad114.add ((x7_1).toNat * 3)).off + 2, none⟩ = some (.int .i64 ((rd_T50 l0 x7_1).f1))) ∧ (Kd.R k64 64 w' w.heap.size (fun k_ => some k_ ≠ (.slice Ao119 xqa_1.length co119 : Value).ownBlock) s_.1 t115) ∧ (Kd.R (Kd.int .i64) 3 w' w.heap.size (fun k_ => some k_ ≠ (.slice Ao120 xqc_1.length co120 : Value).ownBlock) s_.2.1 t119) ∧ (Kd.R k64 64 w' w.heap.size (fun k_ => some k_ ≠ (s_.1 : Value).ownBlock) (.slice Ao119 xqa_1.length co119) xqa_1) ∧ (Kd.R (Kd.int .i64) 3 w' w.heap.size (fun k_ => some k_ ≠ (s_.2.1 : Value).ownBlock) (.slice Ao120 xqc_1.length co120) xqc_1) ∧ (Kd.R k50 50 w' w.heap.size (fun _ => True) u6 x6_1) ∧ (w'.heap[gb108]? = some (.cells #[.slice Ao119 xqa_1.length co119, .int .i64 xqb_1, .slice Ao120 xqc_1.length co120] 25 (0, 0))) ∧ (w'.heap[s_.2.2]? = some (.cells #[.slice none 0 0, .int .i64 0, .slice none 0 0] 25 (0, 0))) ∧ (w.heap.size ≤ s_.2.2) ∧ (w.heap.size ≤ s_.2.2) ∧ (gb108 ≠ s_.2.2) ∧ (s_.2.2 ≠ gb108) ∧ (Below w.heap.size w w')) ?_ ?_
         rotate_left
         ·intro hCont
          refine two_ (i := 5) (j := 9) (Ni := some 47) (Nj := some 9) #[true, true, true, true, true, true, false, false, false, false, false, false] #[true, true, true, true, true, false, false, false, false, true, false, false] rfl rfl rfl rfl (two_of HT_.out (by kernel_rfl)) (by decide) (by decide) (fun K hK => ?_) (fun K hK => ?_)
          ·skip
           refine goes_ Try.func26 (by kernel_rfl) rfl #[.agg #[.slice Ao119 xqa_1.length co119, .int .i64 xqb_1, .slice Ao120 xqc_1.length co120], .agg #[.int .i64 ((rd_T50 l0 x7_1).f0.f0), .int .i64 ((rd_T50 l0 x7_1).f0.f1), .int .i64 ((rd_T50 l0 x7_1).f1)]] (by rfl) rfl rfl zt ?_
           with_reducible refine (tree_Insert.calls _ _ xqa_1 xqb_1 _ _ xqc_1 ((rd_T50 l0 x7_1).f0.f0) ((rd_T50 l0 x7_1).f0.f1) ((rd_T50 l0 x7_1).f1) t115 t118 t119 t122 _ ?side1 ?side2 ?side3 ?side4 A29.out).mono ?_
           (case side1 => exact zc (zX HO_qa.out).2.2)
           (case side2 => exact (zX HO_qa.out).2.1)
           (case side3 => exact zc (zX HO_qc.out).2.2)
           (case side4 => exact (zX HO_qc.out).2.1)
           rintro e w122 ⟨v116, v120, rfl, ho0, ho1, hb⟩
           refine ⟨_, rfl, ?_⟩
           have n0_ := zK (zO (zr HO_6.out) hb)
           have n1_ := zK (yC (zr HO_qa.out) (Kd.R_base ho0) hb)
           have n2_ := zK (yC (zr HO_qc.out) (Kd.R_base ho1) hb)
           have n3_ := zK (zV (zW ho0 (yB (zr HO_qa.out))) (yG (zl HB.out)))
           have n4_ := zK (zV (zW ho1 (yB (zr HO_qc.out))) (yG (zl HB.out)))
           have n5_ := zK (zP (g := gb108) (o := .cells #[.slice Ao119 xqa_1.length co119, .int .i64 xqb_1, .slice Ao120 xqc_1.length co120] 25 (0, 0)) (zb BK108.out) hb)
           have n6_ := zK (yF (zl HB.out) hb)
           clear HO_6
           clear HO_qa
           clear HO_qc
           clear BK108
           clear HB
           have HO_6 := n0_
           have HO_qa := n1_
           have HO_qc := n2_
           have HO117 := n3_
           have HO121 := n4_
           have BK108 := n5_
           have HB := n6_
           clear n0_ n1_ n2_ n3_ n4_ n5_ n6_
           (try clear hb)
           (try clear hb2)
           (try clear hk)
           (try clear hi)
           (try clear ho0)
           (try clear ho1)
           refine hK.out _ _ ⟨(zQ BK108.out 0).trans rfl, (zQ BK108.out 1).trans rfl, (zQ BK108.out 2).trans rfl, ((HB.out.cell (zJ w _ hw114_0)).trans hw114_0), ((HB.out.cell (zJ w _ hw114_1)).trans hw114_1), ((HB.out.cell (zJ w _ hw114_2)).trans hw114_2)⟩ (fun hHeld => ?_)
           clear hK K
           refine norm_ (a' := ?_) ?_ ?_
           rotate_left
           ·show Act.put _ (some 47) _ = _
            simp only [Act.put, zY, zZ, yA, i64_w, i32_w]
            rfl
           refine pure_ (i := 6) (N := some 41) (v := ?_) (a' := ?_) #[true, true, true, true, true, true, true, false, false, false, false, false] rfl rfl (any_of HT_.out (by kernel_rfl)) (fun _ _ _ h => h) (Or.inl ⟨by rfl, ?_⟩) ?_ ?_
           rotate_left
           ·intro w'
            go_simp
            with_reducible rfl
           rotate_left
           ·simp only [Act.put, zY, zZ, yA, i64_w, i32_w]
            rfl
           refine pure_ (i := 7) (N := some 48) (v := ?_) (a' := ?_) #[true, true, true, true, true, true, true, true, false, false, false, false] rfl rfl (any_of HT_.out (by kernel_rfl)) (fun _ _ _ h => h) (Or.inl ⟨by rfl, ?_⟩) ?_ ?_
           rotate_left
           ·intro w'
            go_simp
            with_reducible rfl
           rotate_left
           ·simp only [Act.put, zY, zZ, yA, i64_w, i32_w]
            rfl
           refine pure_ (i := 8) (N := some 49) (v := ?_) (a' := ?_) #[true, true, true, true, true, true, true, true, true, false, false, false] rfl rfl (any_of HT_.out (by kernel_rfl)) (fun _ _ _ h => h) (Or.inl ⟨by rfl, ?_⟩) ?_ ?_
           rotate_left
           ·intro w'
            go_simp
            with_reducible rfl
           rotate_left
           ·simp only [Act.put, zY, zZ, yA, i64_w, i32_w]
            rfl
           refine one_ (i := 9) (N := some 9) #[true, true, true, true, true, true, true, true, true, true, false, false] rfl rfl (one_of HT_.out (by kernel_rfl)) (by decide) (fun K hK => ?_)
           refine box_step ?hg (N := 9) ?hd (cs := #[.slice none 0 0, .int .i64 0, .slice none 0 0]) (t := 25) ?hr ?_; (case hd => rfl); (case hg => rfl); (case hr => first | (go_simp; done) | (go_simp; rfl))
           intro gb123 hg w123 hbox hb
           have n0_ := zK (zO (zr HO_6.out) hb)
           have n1_ := zK (zO (zr HO_qa.out) hb)
           have n2_ := zK (zO (zr HO_qc.out) hb)
           have n3_ := zK (zO (zr HO117.out) hb)
           have n4_ := zK (zO (zr HO121.out) hb)
           have n5_ := zK (zP (g := gb108) (o := .cells #[.slice Ao119 xqa_1.length co119, .int .i64 xqb_1, .slice Ao120 xqc_1.length co120] 25 (0, 0)) (zb BK108.out) hb)
           have n6_ := zK (yF (zl HB.out) hb)
           have n7_ := zK (hbox)
           have n8_ := zK ((by rw [hg]; exact (yG (zl HB.out)) : w.heap.size ≤ gb123))
           have n9_ := zK ((by rw [hg]; exact (yG (zl HB.out)) : w.heap.size ≤ gb123))
           have n10_ := zK ((by rw [hg]; exact zN (blk_lt (g := gb108) (o := .cells #[.slice Ao119 xqa_1.length co119, .int .i64 xqb_1, .slice Ao120 xqc_1.length co120] 25 (0, 0)) (zb BK108.out)) : gb108 ≠ gb123))
           have n11_ := zK ((by rw [hg]; exact Nat.ne_of_gt (blk_lt (g := gb108) (o := .cells #[.slice Ao119 xqa_1.length co119, .int .i64 xqb_1, .slice Ao120 xqc_1.length co120] 25 (0, 0)) (zb BK108.out)) : gb123 ≠ gb108))
           clear HO_6
           clear HO_qa
           clear HO_qc
           clear HO117
           clear HO121
           clear BK108
           clear HB
           have HO_6 := n0_
           have HO_qa := n1_
           have HO_qc := n2_
           have HO117 := n3_
           have HO121 := n4_
           have BK108 := n5_
           have HB := n6_
           have BK123 := n7_
           have GW123 := n8_
           have GE123 := n9_
           have NB108_123 := n10_
           have NB123_108 := n11_
           clear n0_ n1_ n2_ n3_ n4_ n5_ n6_ n7_ n8_ n9_ n10_ n11_
           clear hb hbox hg
           refine hK.out _ _ ⟨(zQ BK108.out 0).trans rfl, (zQ BK108.out 1).trans rfl, (zQ BK108.out 2).trans rfl, ((HB.out.cell (zJ w _ hw114_0)).trans hw114_0), ((HB.out.cell (zJ w _ hw114_1)).trans hw114_1), ((HB.out.cell (zJ w _ hw114_2)).trans hw114_2)⟩ (fun hHeld => ?_)
           clear hK K
           refine norm_ (a' := ?_) ?_ ?_
           rotate_left
           ·show Act.put _ (some 9) _ = _
            simp only [Act.put, zY, zZ, yA, i64_w, i32_w]
            rfl
           exact norm_ (by simp only [putAll, Act.put, zY, zZ, yA]) (hCont (v116, v120, gb123) _ ⟨hHeld, (by (with_reducible repeat (first | apply zA | apply zB | apply zC)); exact Kd.R_mono HO117.out (fun _ hk => hk.2)), (by (with_reducible repeat (first | apply zA | apply zB | apply zC)); exact Kd.R_mono HO121.out (fun _ hk => hk.2)), (by (with_reducible repeat (first | apply zA | apply zB | apply zC)); exact Kd.R_mono HO_qa.out (fun _ hk => hk.2)), (by (with_reducible repeat (first | apply zA | apply zB | apply zC)); exact Kd.R_mono HO_qc.out (fun _ hk => hk.2)), (zr HO_6.out), (zb BK108.out), (zb BK123.out), GW123.out, GE123.out, NB108_123.out, NB123_108.out, (zl HB.out)⟩)
          ·skip
           refine box_step ?hg (N := 9) ?hd (cs := #[.slice none 0 0, .int .i64 0, .slice none 0 0]) (t := 25) ?hr ?_; (case hd => rfl); (case hg => rfl); (case hr => first | (go_simp; done) | (go_simp; rfl))
           intro gb123 hg w122 hbox hb
           have n0_ := zK (zO (zr HO_6.out) hb)
           have n1_ := zK (zO (zr HO_qa.out) hb)
           have n2_ := zK (zO (zr HO_qc.out) hb)
           have n3_ := zK (zP (g := gb108) (o := .cells #[.slice Ao119 xqa_1.length co119, .int .i64 xqb_1, .slice Ao120 xqc_1.length co120] 25 (0, 0)) (zb BK108.out) hb)
           have n4_ := zK (yF (zl HB.out) hb)
           have n5_ := zK (hbox)
           have n6_ := zK ((by rw [hg]; exact (yG (zl HB.out)) : w.heap.size ≤ gb123))
           have n7_ := zK ((by rw [hg]; exact (yG (zl HB.out)) : w.heap.size ≤ gb123))
           have n8_ := zK ((by rw [hg]; exact zN (blk_lt (g := gb108) (o := .cells #[.slice Ao119 xqa_1.length co119, .int .i64 xqb_1, .slice Ao120 xqc_1.length co120] 25 (0, 0)) (zb BK108.out)) : gb108 ≠ gb123))
           have n9_ := zK ((by rw [hg]; exact Nat.ne_of_gt (blk_lt (g := gb108) (o := .cells #[.slice Ao119 xqa_1.length co119, .int .i64 xqb_1, .slice Ao120 xqc_1.length co120] 25 (0, 0)) (zb BK108.out)) : gb123 ≠ gb108))
           clear HO_6
           clear HO_qa
           clear HO_qc
           clear BK108
           clear HB
           have HO_6 := n0_
           have HO_qa := n1_
           have HO_qc := n2_
           have BK108 := n3_
           have HB := n4_
           have BK123 := n5_
           have GW123 := n6_
           have GE123 := n7_
           have NB108_123 := n8_
           have NB123_108 := n9_
           clear n0_ n1_ n2_ n3_ n4_ n5_ n6_ n7_ n8_ n9_
           clear hb hbox hg
           refine hK.out _ _ ⟨(zQ BK108.out 0).trans rfl, (zQ BK108.out 1).trans rfl, (zQ BK108.out 2).trans rfl, ((HB.out.cell (zJ w _ hw114_0)).trans hw114_0), ((HB.out.cell (zJ w _ hw114_1)).trans hw114_1), ((HB.out.cell (zJ w _ hw114_2)).trans hw114_2)⟩ (fun hHeld => ?_)
           clear hK K
           refine norm_ (a' := ?_) ?_ ?_
           rotate_left
           ·show Act.put _ (some 9) _ = _
            simp only [Act.put, zY, zZ, yA, i64_w, i32_w]
            rfl
           refine one_ (i := 5) (N := some 47) #[true, true, true, true, true, true, false, false, false, true, false, false] rfl rfl (one_of HT_.out (by kernel_rfl)) (by decide) (fun K hK => ?_)
           refine goes_ Try.func26 (by kernel_rfl) rfl #[.agg #[.slice Ao119 xqa_1.length co119, .int .i64 xqb_1, .slice Ao120 xqc_1.length co120], .agg #[.int .i64 ((rd_T50 l0 x7_1).f0.f0), .int .i64 ((rd_T50 l0 x7_1).f0.f1), .int .i64 ((rd_T50 l0 x7_1).f1)]] (by rfl) rfl rfl zt ?_
           with_reducible refine (tree_Insert.calls _ _ xqa_1 xqb_1 _ _ xqc_1 ((rd_T50 l0 x7_1).f0.f0) ((rd_T50 l0 x7_1).f0.f1) ((rd_T50 l0 x7_1).f1) t115 t118 t119 t122 _ ?side1 ?side2 ?side3 ?side4 A29.out).mono ?_
           (case side1 => exact zc (zX HO_qa.out).2.2)
           (case side2 => exact (zX HO_qa.out).2.1)
           (case side3 => exact zc (zX HO_qc.out).2.2)
           (case side4 => exact (zX HO_qc.out).2.1)
           rintro e w123 ⟨v116, v120, rfl, ho0, ho1, hb⟩
           refine ⟨_, rfl, ?_⟩
           have n0_ := zK (zO (zr HO_6.out) hb)
           have n1_ := zK (yC (zr HO_qa.out) (Kd.R_base ho0) hb)
           have n2_ := zK (yC (zr HO_qc.out) (Kd.R_base ho1) hb)
           have n3_ := zK (zV (zW ho0 (yB (zr HO_qa.out))) (yG (zl HB.out)))
           have n4_ := zK (zV (zW ho1 (yB (zr HO_qc.out))) (yG (zl HB.out)))
           have n5_ := zK (zP (g := gb108) (o := .cells #[.slice Ao119 xqa_1.length co119, .int .i64 xqb_1, .slice Ao120 xqc_1.length co120] 25 (0, 0)) (zb BK108.out) hb)
           have n6_ := zK (zP (g := gb123) (o := .cells #[.slice none 0 0, .int .i64 0, .slice none 0 0] 25 (0, 0)) (zb BK123.out) hb)
           have n7_ := zK (yF (zl HB.out) hb)
           clear HO_6
           clear HO_qa
           clear HO_qc
           clear BK108
           clear BK123
           clear HB
           have HO_6 := n0_
           have HO_qa := n1_
           have HO_qc := n2_
           have HO117 := n3_
           have HO121 := n4_
           have BK108 := n5_
           have BK123 := n6_
           have HB := n7_
           clear n0_ n1_ n2_ n3_ n4_ n5_ n6_ n7_
           (try clear hb)
           (try clear hb2)
           (try clear hk)
           (try clear hi)
           (try clear ho0)
           (try clear ho1)
           refine hK.out _ _ ⟨(zQ BK108.out 0).trans rfl, (zQ BK108.out 1).trans rfl, (zQ BK108.out 2).trans rfl, ((HB.out.cell (zJ w _ hw114_0)).trans hw114_0), ((HB.out.cell (zJ w _ hw114_1)).trans hw114_1), ((HB.out.cell (zJ w _ hw114_2)).trans hw114_2)⟩ (fun hHeld => ?_)
           clear hK K
           refine norm_ (a' := ?_) ?_ ?_
           rotate_left
           ·show Act.put _ (some 47) _ = _
            simp only [Act.put, zY, zZ, yA, i64_w, i32_w]
            rfl
           refine pure_ (i := 6) (N := some 41) (v := ?_) (a' := ?_) #[true, true, true, true, true, true, true, false, false, true, false, false] rfl rfl (any_of HT_.out (by kernel_rfl)) (fun _ _ _ h => h) (Or.inl ⟨by rfl, ?_⟩) ?_ ?_
           rotate_left
           ·intro w'
            go_simp
            with_reducible rfl
           rotate_left
           ·simp only [Act.put, zY, zZ, yA, i64_w, i32_w]
            rfl
           refine pure_ (i := 7) (N := some 48) (v := ?_) (a' := ?_) #[true, true, true, true, true, true, true, true, false, true, false, false] rfl rfl (any_of HT_.out (by kernel_rfl)) (fun _ _ _ h => h) (Or.inl ⟨by rfl, ?_⟩) ?_ ?_
           rotate_left
           ·intro w'
            go_simp
            with_reducible rfl
           rotate_left
           ·simp only [Act.put, zY, zZ, yA, i64_w, i32_w]
            rfl
           refine pure_ (i := 8) (N := some 49) (v := ?_) (a' := ?_) #[true, true, true, true, true, true, true, true, true, true, false, false] rfl rfl (any_of HT_.out (by kernel_rfl)) (fun _ _ _ h => h) (Or.inl ⟨by rfl, ?_⟩) ?_ ?_
           rotate_left
           ·intro w'
            go_simp
            with_reducible rfl
           rotate_left
           ·simp only [Act.put, zY, zZ, yA, i64_w, i32_w]
            rfl
           exact norm_ (by simp only [putAll, Act.put, zY, zZ, yA]) (hCont (v116, v120, gb123) _ ⟨hHeld, (by (with_reducible repeat (first | apply zA | apply zB | apply zC)); exact Kd.R_mono HO117.out (fun _ hk => hk.2)), (by (with_reducible repeat (first | apply zA | apply zB | apply zC)); exact Kd.R_mono HO121.out (fun _ hk => hk.2)), (by (with_reducible repeat (first | apply zA | apply zB | apply zC)); exact Kd.R_mono HO_qa.out (fun _ hk => hk.2)), (by (with_reducible repeat (first | apply zA | apply zB | apply zC)); exact Kd.R_mono HO_qc.out (fun _ hk => hk.2)), (zr HO_6.out), (zb BK108.out), (zb BK123.out), GW123.out, GE123.out, NB108_123.out, NB123_108.out, (zl HB.out)⟩)
         rintro ⟨v116, v120, gb123⟩ w124 ⟨hS_, h0_, h1_, h2_, h3_, h4_, h5_, h6_, h7_, h8_, h9_, h10_, h11_⟩
         have n0_ : Aside0 (Kd.R k64 64 w124 w.heap.size (fun k_ => some k_ ≠ (.slice Ao119 xqa_1.length co119 : Value).ownBlock) v116 t115) := ⟨h0_⟩
         have n1_ : Aside0 (Kd.R (Kd.int .i64) 3 w124 w.heap.size (fun k_ => some k_ ≠ (.slice Ao120 xqc_1.length co120 : Value).ownBlock) v120 t119) := ⟨h1_⟩
         have n2_ : Aside0 (Kd.R k64 64 w124 w.heap.size (fun k_ => some k_ ≠ (v116 : Value).ownBlock) (.slice Ao119 xqa_1.length co119) xqa_1) := ⟨h2_⟩
         have n3_ : Aside0 (Kd.R (Kd.int .i64) 3 w124 w.heap.size (fun k_ => some k_ ≠ (v120 : Value).ownBlock) (.slice Ao120 xqc_1.length co120) xqc_1) := ⟨h3_⟩
         have n4_ : Aside0 (Kd.R k50 50 w124 w.heap.size (fun _ => True) u6 x6_1) := ⟨h4_⟩
         have n5_ : Aside0 (w124.heap[gb108]? = some (.cells #[.slice Ao119 xqa_1.length co119, .int .i64 xqb_1, .slice Ao120 xqc_1.length co120] 25 (0, 0))) := ⟨h5_⟩
         have n6_ : Aside0 (w124.heap[gb123]? = some (.cells #[.slice none 0 0, .int .i64 0, .slice none 0 0] 25 (0, 0))) := ⟨h6_⟩
         have n7_ : Aside0 (w.heap.size ≤ gb123) := ⟨h7_⟩
         have n8_ : Aside0 (w.heap.size ≤ gb123) := ⟨h8_⟩
         have n9_ : Aside0 (gb108 ≠ gb123) := ⟨h9_⟩
         have n10_ : Aside0 (gb123 ≠ gb108) := ⟨h10_⟩
         have n11_ : Aside0 (Below w.heap.size w w124) := ⟨h11_⟩
         clear HO_6
         clear HO_qa
         clear HO_qc
         clear BK108
         clear HB
         clear h0_ h1_ h2_ h3_ h4_ h5_ h6_ h7_ h8_ h9_ h10_ h11_
         have HO117 := n0_
         have HO121 := n1_
         have HO_qa := n2_
         have HO_qc := n3_
         have HO_6 := n4_
         have BK108 := n5_
         have BK123 := n6_
         have GW123 := n7_
         have GE123 := n8_
         have NB108_123 := n9_
         have NB123_108 := n10_
         have HB := n11_
         clear n0_ n1_ n2_ n3_ n4_ n5_ n6_ n7_ n8_ n9_ n10_ n11_
         have hHeld : w124.cell? ⟨gb108, 0, none⟩ = some (.slice Ao119 xqa_1.length co119) ∧ w124.cell? ⟨gb108, 1, none⟩ = some (.int .i64 xqb_1) ∧ w124.cell? ⟨gb108, 2, none⟩ = some (.slice Ao120 xqc_1.length co120) ∧ w124.cell? (ad114.add ((x7_1).toNat * 3)) = some (.int .i64 ((rd_T50 l0 x7_1).f0.f0)) ∧ w124.cell? ⟨(ad114.add ((x7_1).toNat * 3)).block, (ad114.add ((x7_1).toNat * 3)).off + 1, none⟩ = some (.int .i64 ((rd_T50 l0 x7_1).f0.f1)) ∧ w124.cell? ⟨(ad114.add ((x7_1).toNat * 3)).block, (ad114.add ((x7_1).toNat * 3)).off + 2, none⟩ = some (.int .i64 ((rd_T50 l0 x7_1).f1)) := hS_
         obtain ⟨Ao125, co125, eo125⟩ := yE HO117.out
         (first | subst eo125 | (injection eo125 with f1_ f2_ f3_; have f4_ := f1_.symm; have f5_ := f3_.symm; clear f1_ f2_ f3_; subst f4_; subst f5_))
         obtain ⟨Ao128, co128, eo128⟩ := yE HO121.out
         (first | subst eo128 | (injection eo128 with f1_ f2_ f3_; have f4_ := f1_.symm; have f5_ := f3_.symm; clear f1_ f2_ f3_; subst f4_; subst f5_))
         refine norm_ (a' := ?_) ?_ ?_
         rotate_left
         ·simp only [putAll, Act.put, zY, zZ, yA]
          rfl
         refine one_ (i := 10) (N := none) #[true, true, true, true, true, true, true, true, true, true, true, false] rfl rfl (one_of HT_.out (by kernel_rfl)) (by decide) (fun K hK => ?_)
         have hs126 : w124.cell? ⟨gb123, 0, none⟩ = some (.slice none 0 0) := (zQ BK123.out 0).trans rfl
         have hfs126 := zR BK123.out 0
         have hns126_0 := NB108_123.out
         have hms126_0 := NB123_108.out
         have hs127 : w124.cell? ⟨gb123, 1, none⟩ = some (.int .i64 0) := (zQ BK123.out 1).trans rfl
         have hfs127 := zR BK123.out 1
         have hns127_0 := NB108_123.out
         have hms127_0 := NB123_108.out
         have hs129 : w124.cell? ⟨gb123, 2, none⟩ = some (.slice none 0 0) := (zQ BK123.out 2).trans rfl
         have hfs129 := zR BK123.out 2
         have hns129_0 := NB108_123.out
         have hms129_0 := NB123_108.out
         refine skip_ (w1 := ?_) (by rfl) rfl ?_ ?_
         rotate_left
         ·go_simp
          rfl
         refine hK.out _ _ ⟨((cell_far (p := ⟨gb123, _, none⟩) NB108_123.out _).trans (((cell_far (p := ⟨gb123, _, none⟩) NB108_123.out _).trans (((cell_far (p := ⟨gb123, _, none⟩) NB108_123.out _).trans (hHeld.1)))))), ((cell_far (p := ⟨gb123, _, none⟩) NB108_123.out _).trans (((cell_far (p := ⟨gb123, _, none⟩) NB108_123.out _).trans (((cell_far (p := ⟨gb123, _, none⟩) NB108_123.out _).trans (hHeld.2.1)))))), ((cell_far (p := ⟨gb123, _, none⟩) NB108_123.out _).trans (((cell_far (p := ⟨gb123, _, none⟩) NB108_123.out _).trans (((cell_far (p := ⟨gb123, _, none⟩) NB108_123.out _).trans (hHeld.2.2.1)))))), ((cell_far (p := ⟨gb123, _, none⟩) (by first | exact zN (zM (by have := zJ _ _ hw114_0; first | rwa [add_block] at this | exact this) GW123.out) | (rw [add_block]; exact zN (zM (by have := zJ _ _ hw114_0; first | rwa [add_block] at this | exact this) GW123.out)) | (show (Addr.add _ _).block ≠ _; rw [add_block]; exact zN (zM (by have := zJ _ _ hw114_0; first | rwa [add_block] at this | exact this) GW123.out)) | (dsimp only; exact zN (zM (by have := zJ _ _ hw114_0; first | rwa [add_block] at this | exact this) GW123.out))) _).trans (((cell_far (p := ⟨gb123, _, none⟩) (by first | exact zN (zM (by have := zJ _ _ hw114_0; first | rwa [add_block] at this | exact this) GW123.out) | (rw [add_block]; exact zN (zM (by have := zJ _ _ hw114_0; first | rwa [add_block] at this | exact this) GW123.out)) | (show (Addr.add _ _).block ≠ _; rw [add_block]; exact zN (zM (by have := zJ _ _ hw114_0; first | rwa [add_block] at this | exact this) GW123.out)) | (dsimp only; exact zN (zM (by have := zJ _ _ hw114_0; first | rwa [add_block] at this | exact this) GW123.out))) _).trans (((cell_far (p := ⟨gb123, _, none⟩) (by first | exact zN (zM (by have := zJ _ _ hw114_0; first | rwa [add_block] at this | exact this) GW123.out) | (rw [add_block]; exact zN (zM (by have := zJ _ _ hw114_0; first | rwa [add_block] at this | exact this) GW123.out)) | (show (Addr.add _ _).block ≠ _; rw [add_block]; exact zN (zM (by have := zJ _ _ hw114_0; first | rwa [add_block] at this | exact this) GW123.out)) | (dsimp only; exact zN (zM (by have := zJ _ _ hw114_0; first | rwa [add_block] at this | exact this) GW123.out))) _).trans (hHeld.2.2.2.1)))))), ((cell_far (p := ⟨gb123, _, none⟩) (by first | exact zN (zM (by have := zJ _ _ hw114_1; first | rwa [add_block] at this | exact this) GW123.out) | (rw [add_block]; exact zN (zM (by have := zJ _ _ hw114_1; first | rwa [add_block] at this | exact this) GW123.out)) | (show (Addr.add _ _).block ≠ _; rw [add_block]; exact zN (zM (by have := zJ _ _ hw114_1; first | rwa [add_block] at this | exact this) GW123.out)) | (dsimp only; exact zN (zM (by have := zJ _ _ hw114_1; first | rwa [add_block] at this | exact this) GW123.out))) _).trans (((cell_far (p := ⟨gb123, _, none⟩) (by first | exact zN (zM (by have := zJ _ _ hw114_1; first | rwa [add_block] at this | exact this) GW123.out) | (rw [add_block]; exact zN (zM (by have := zJ _ _ hw114_1; first | rwa [add_block] at this | exact this) GW123.out)) | (show (Addr.add _ _).block ≠ _; rw [add_block]; exact zN (zM (by have := zJ _ _ hw114_1; first | rwa [add_block] at this | exact this) GW123.out)) | (dsimp only; exact zN (zM (by have := zJ _ _ hw114_1; first | rwa [add_block] at this | exact this) GW123.out))) _).trans (((cell_far (p := ⟨gb123, _, none⟩) (by first | exact zN (zM (by have := zJ _ _ hw114_1; first | rwa [add_block] at this | exact this) GW123.out) | (rw [add_block]; exact zN (zM (by have := zJ _ _ hw114_1; first | rwa [add_block] at this | exact this) GW123.out)) | (show (Addr.add _ _).block ≠ _; rw [add_block]; exact zN (zM (by have := zJ _ _ hw114_1; first | rwa [add_block] at this | exact this) GW123.out)) | (dsimp only; exact zN (zM (by have := zJ _ _ hw114_1; first | rwa [add_block] at this | exact this) GW123.out))) _).trans (hHeld.2.2.2.2.1)))))), ((cell_far (p := ⟨gb123, _, none⟩) (by first | exact zN (zM (by have := zJ _ _ hw114_2; first | rwa [add_block] at this | exact this) GW123.out) | (rw [add_block]; exact zN (zM (by have := zJ _ _ hw114_2; first | rwa [add_block] at this | exact this) GW123.out)) | (show (Addr.add _ _).block ≠ _; rw [add_block]; exact zN (zM (by have := zJ _ _ hw114_2; first | rwa [add_block] at this | exact this) GW123.out)) | (dsimp only; exact zN (zM (by have := zJ _ _ hw114_2; first | rwa [add_block] at this | exact this) GW123.out))) _).trans (((cell_far (p := ⟨gb123, _, none⟩) (by first | exact zN (zM (by have := zJ _ _ hw114_2; first | rwa [add_block] at this | exact this) GW123.out) | (rw [add_block]; exact zN (zM (by have := zJ _ _ hw114_2; first | rwa [add_block] at this | exact this) GW123.out)) | (show (Addr.add _ _).block ≠ _; rw [add_block]; exact zN (zM (by have := zJ _ _ hw114_2; first | rwa [add_block] at this | exact this) GW123.out)) | (dsimp only; exact zN (zM (by have := zJ _ _ hw114_2; first | rwa [add_block] at this | exact this) GW123.out))) _).trans (((cell_far (p := ⟨gb123, _, none⟩) (by first | exact zN (zM (by have := zJ _ _ hw114_2; first | rwa [add_block] at this | exact this) GW123.out) | (rw [add_block]; exact zN (zM (by have := zJ _ _ hw114_2; first | rwa [add_block] at this | exact this) GW123.out)) | (show (Addr.add _ _).block ≠ _; rw [add_block]; exact zN (zM (by have := zJ _ _ hw114_2; first | rwa [add_block] at this | exact this) GW123.out)) | (dsimp only; exact zN (zM (by have := zJ _ _ hw114_2; first | rwa [add_block] at this | exact this) GW123.out))) _).trans (hHeld.2.2.2.2.2))))))⟩ (fun hHeld => ?_)
         clear hK K
         refine pure_ (i := 11) (N := some 10) (v := ?_) (a' := ?_) #[true, true, true, true, true, true, true, true, true, true, true, true] rfl rfl (any_of HT_.out (by kernel_rfl)) (fun _ _ _ h => h) (Or.inl ⟨by rfl, ?_⟩) ?_ ?_
         rotate_left
         ·intro w'
          go_simp
          with_reducible rfl
         rotate_left
         ·simp only [Act.put, zY, zZ, yA, i64_w, i32_w]
          rfl
         refine done_ (done_of HT_.out (by kernel_rfl)) ?_
         try go_wp2_with (first | ((with_reducible refine gate_callee (f := 19) rfl ?_); refine goesL_ (some 51) rfl rfl Try.func19 (by kernel_rfl) rfl #[.int .i64 t122] rfl zt ?_; (with_reducible refine (tollbarlaw0_Num.calls t122 t124 _ A30.out).mono ?_); rintro e w' ⟨rfl, ⟨nd, rfl⟩⟩; refine ⟨_, rfl, ?_⟩))
         go_ret
         exact ⟨ze, zl HB.out⟩
       ·rw [if_neg c28] at H
        exact absurd H (by simp)
      ·rw [if_neg c27] at H
       exact absurd H (by simp)
   ·rw [if_neg c9] at H
    have c9b0 : decide (x7_1 < (l0.length : Int)) = false := decide_eq_false c9
    clear c9
    replace H := yH.mp H
    obtain ⟨t109, A1300, H⟩ := H
    replace H : (some t109) = some r := H
    have A130 := zK A1300
    clear A1300
    obtain rfl := Option.some.inj H
    go_wp2_with (first | ((with_reducible refine gate_callee (f := 18) rfl ?_); refine goesL_ (some 112) rfl rfl Try.func18 (by kernel_rfl) rfl #[] rfl zt ?_; (with_reducible refine (tollbarlaw17_awake.calls  t109 _ A130.out).mono ?_); rintro e w131 ⟨rfl, hb⟩; refine ⟨_, rfl, ?_⟩; have n0_ := zK (zO (zr HO_6.out) hb); have n1_ := zK (zO (zr HO_qa.out) hb); have n2_ := zK (zO (zr HO_qc.out) hb); have n3_ := zK (zP (g := gb108) (o := .cells #[uqa, .int .i64 xqb_1, uqc] 25 (0, 0)) (zb BK108.out) hb); have n4_ := zK (yF (zl HB.out) hb); clear HO_6; clear HO_qa; clear HO_qc; clear BK108; clear HB; have HO_6 := n0_; have HO_qa := n1_; have HO_qc := n2_; have BK108 := n3_; have HB := n4_; clear n0_ n1_ n2_ n3_ n4_; (try clear hb); (try clear hb2); (try clear hk); (try clear hi)))
    go_ret
    exact ⟨ze, zl HB.out⟩
end Go.Proofs.Ytgkjpffbgnljeaa.QG
/- How the parameters of the law TreeGrows are read. -/
set_option linter.unusedVariables false
namespace Go.Proofs.Ytgkjpffbgnljeaa.OpsTreeGrows
open Go.RowKit Go.Proofs.YtgkjpffbgnljeaaW.PrintWords Go.Proofs.YtgkjpffbgnljeaaW.PrintLast Go.Proofs.YtgkjpffbgnljeaaW.PrintMore Go.Proofs.Ytgkjpffbgnljeaa.Op Go.Proofs.Ytgkjpffbgnljeaa.QG Go.Proofs.Ytgkjpffbgnljeaa.Man Go.Proofs.Ytgkjpffbgnljeaa.QT Go.Proofs.Ytgkjpffbgnljeaa.QA Go.Proofs.Ytgkjpffbgnljeaa.Man
theorem op3 : Opens Try.prog 3 (Kd.int .i64) (fun n => (Lit.int .i64 n).wf = true) (fun _ => 1) := opens_int Try.underlying3
def I27 (s : S27) : Prop := (fun n : Int => (Lit.int .i64 n).wf = true) s.f0 ∧ (fun n : Int => (Lit.int .i64 n).wf = true) s.f1
def B27 (s : S27) : Nat := ((fun _ : Int => 1) s.f0 + ((fun _ : Int => 1) s.f1)) + 1
theorem op27 : Opens Try.prog 27 k27 I27 B27 := opens_struct Try.underlying27 (by kernel_rfl) (fun s : S27 => (s.f0, s.f1)) (fun p => ⟨p.1, p.2⟩) (fun _ => rfl) (opens_cons (by first | rfl | kernel_rfl) (by kernel_rfl) op3 (opens_last (by first | rfl | kernel_rfl) (by kernel_rfl) op3))
def I50 (s : S50) : Prop := I27 s.f0 ∧ (fun n : Int => (Lit.int .i64 n).wf = true) s.f1
def B50 (s : S50) : Nat := (B27 s.f0 + ((fun _ : Int => 1) s.f1)) + 1
theorem op50 : Opens Try.prog 50 k50 I50 B50 := opens_struct Try.underlying50 (by kernel_rfl) (fun s : S50 => (s.f0, s.f1)) (fun p => ⟨p.1, p.2⟩) (fun _ => rfl) (opens_cons (by first | rfl | kernel_rfl) (by kernel_rfl) op27 (opens_last (by first | rfl | kernel_rfl) (by kernel_rfl) op3))
theorem op29 : Opens Try.prog 29 (Kd.slice 50 k50) (fun xs : List S50 => (∀ x ∈ xs, I50 x) ∧ xs.length * 24 ≤ 140737488351232) (fun xs : List S50 => (xs.map B50).sum + 1) := opens_slice Try.underlying29 (m := 24) (by kernel_rfl) op50 (by kernel_rfl)
theorem op23 : Opens Try.prog 23 (Kd.slice 3 (Kd.int .i64)) (fun xs : List Int => (∀ x ∈ xs, (fun n : Int => (Lit.int .i64 n).wf = true) x) ∧ xs.length * 8 ≤ 140737488351232) (fun xs : List Int => (xs.map (fun _ : Int => 1)).sum + 1) := opens_slice Try.underlying23 (m := 8) (by kernel_rfl) op3 (by kernel_rfl)
end Go.Proofs.Ytgkjpffbgnljeaa.OpsTreeGrows
/- tollbarref17.hung: what it answers, plain. -/
set_option linter.unusedVariables false
set_option linter.unusedSimpArgs false
namespace Go.Proofs.Ytgkjpffbgnljeaa.Man
open Go.RowKit Go.Proofs.Ytgkjpffbgnljeaa.QT Go.Proofs.Ytgkjpffbgnljeaa.QA Go.Proofs.Ytgkjpffbgnljeaa.TreeM Go.Proofs.YtgkjpffbgnljeaaW.PrintWords Go.Proofs.YtgkjpffbgnljeaaW.PrintLast Go.Proofs.YtgkjpffbgnljeaaW.PrintMore
def seenB (nn : Nat) (S : Nat → Bool) : List Bool := (List.range nn).map S
theorem seenB_length (nn : Nat) (S : Nat → Bool) : (seenB nn S).length = nn := by simp [seenB]
theorem seenB_rd {nn : Nat} (S : Nat → Bool) {p : Nat} (hp : p < nn) : rdOf false (seenB nn S) (p : Int) = S p := by
 unfold rdOf seenB
 rw [Int.toNat_natCast, List.getD, List.getElem?_map, List.getElem?_range hp]
 rfl
theorem seenB_set {nn : Nat} (S : Nat → Bool) (p : Nat) : (seenB nn S).set p true = seenB nn (plus S p) := by
 apply List.ext_getElem?
 intro j
 unfold seenB plus
 rw [List.getElem?_set, List.getElem?_map, List.getElem?_map]
 by_cases hj : j < nn
 ·rw [List.getElem?_range hj]
  by_cases e : p = j
  ·subst e; simp [hj]
  ·simp [e, Ne.symm e]
 ·have e2 : (List.range nn)[j]? = none := List.getElem?_eq_none (by simp; omega)
  rw [e2]
  by_cases e : p = j
  ·subst e; simp [hj]
  ·simp [e]
theorem hung_j1 (k : Nat) (x2 : List Bool) (ls rs : List It) (lh lm rh rm : Int) (c : Bool) (y0 y1 y2 y3 y4 y5 y6 : Int) (h1 : ls.length ≤ 1000) (h2 : rs.length ≤ 1000) (hl : 0 ≤ lh ∧ lh ≤ 1000) (hr : 0 ≤ rh ∧ rh ≤ 1000) :
  tollbarref17_hung.j1 (k + 3) x2 ls lh lm rs rh rm c y0 y1 y2 y3 y4 y5 y6 = some (if c = false ∧ y5 = 1 + max lh rh ∧ y6 = max y1 (max lm rm) then (ls ++ ⟨⟨y0, y1⟩, y2⟩ :: rs, 1 + max lh rh, max y1 (max lm rm), true, x2) else ([], 0, 0, false, x2)) := by
 have j3 : ∀ (h m : Int), 0 ≤ h ∧ h ≤ 1000 → tollbarref17_hung.j3 (k + 1) x2 ls rs h m y0 y1 y2 y3 y4 y5 y6 = some (if y5 = 1 + h ∧ y6 = max y1 m then (ls ++ ⟨⟨y0, y1⟩, y2⟩ :: rs, 1 + h, max y1 m, true, x2) else ([], 0, 0, false, x2)) := by
  intro h m hh
  have hw : wrap64 (h + 1) = 1 + h := by unfold wrap64; omega
  rw [tollbarref17_hung.j3, hw]
  have e1 : ([] : List It).length + ls.length < 5864062014805 := by simp; omega
  have e2 : (([] : List It) ++ ls).length < 5864062014805 := by simp; omega
  have e3 : (([] ++ ls) ++ [(⟨⟨y0, y1⟩, y2⟩ : It)]).length + rs.length < 5864062014805 := by simp; omega
  simp only [Option.bind_some, if_pos e1, if_pos e2, if_pos e3]
  by_cases g1 : y1 > m
  ·rw [if_pos g1, Int.max_eq_left (by omega)]
   by_cases g2 : y5 = 1 + h
   ·rw [if_pos g2]
    by_cases g3 : y6 = y1
    ·rw [if_pos g3, if_pos ⟨g2, g3⟩]; simp
    ·rw [if_neg g3, if_neg (fun g => g3 g.2)]
   ·rw [if_neg g2, if_neg (fun g => g2 g.1)]
  ·rw [if_neg g1, Int.max_eq_right (by omega)]
   by_cases g2 : y5 = 1 + h
   ·rw [if_pos g2]
    by_cases g3 : y6 = m
    ·rw [if_pos g3, if_pos ⟨g2, g3⟩]; simp
    ·rw [if_neg g3, if_neg (fun g => g3 g.2)]
   ·rw [if_neg g2, if_neg (fun g => g2 g.1)]
 have j2 : ∀ (h : Int), 0 ≤ h ∧ h ≤ 1000 → tollbarref17_hung.j2 (k + 2) x2 ls rs rm h lm y0 y1 y2 y3 y4 y5 y6 = some (if y5 = 1 + h ∧ y6 = max y1 (max lm rm) then (ls ++ ⟨⟨y0, y1⟩, y2⟩ :: rs, 1 + h, max y1 (max lm rm), true, x2) else ([], 0, 0, false, x2)) := by
  intro h hh
  rw [tollbarref17_hung.j2]
  by_cases g : rm > lm
  ·rw [if_pos g, j3 h rm hh, show max lm rm = rm from Int.max_eq_right (by omega)]
  ·rw [if_neg g, j3 h lm hh, show max lm rm = lm from Int.max_eq_left (by omega)]
 rw [tollbarref17_hung.j1]
 cases c with
 | true => simp
 | false =>
  rw [if_neg (by decide)]
  by_cases g : rh > lh
  ·rw [if_pos g, j2 rh hr, show max lh rh = rh from Int.max_eq_right (by omega)]; simp
  ·rw [if_neg g, j2 lh hl, show max lh rh = lh from Int.max_eq_left (by omega)]; simp
def HungIs (ns : List Nd) (S : Nat → Bool) (i : Int) (o : List It × Int × Int × Bool × List Bool) : Prop :=
 (∃ t, Good (cellN ns) ns.length S i t ∧ o = ((items t).map toI, (hgt t : Int), most t, true, seenB ns.length (plusT S t))) ∨
 ((∀ t, ¬ Good (cellN ns) ns.length S i t) ∧ ∃ S' : Nat → Bool, (∀ k, S k = true → S' k = true) ∧ o = ([], 0, 0, false, seenB ns.length S'))
theorem plus_le {S : Nat → Bool} {p : Nat} : ∀ k, S k = true → plus S p k = true := fun k h => by unfold plus; rw [h]; rfl
theorem plusT_le {S : Nat → Bool} {t : T} : ∀ k, S k = true → plusT S t k = true := fun k h => by unfold plusT; rw [h]; rfl
theorem Good.len {a : Cells} {nn : Nat} {S : Nat → Bool} {i : Int} {t : T} (h : Good a nn S i t) : (items t).length ≤ nn := by rw [items_places]; exact places_le h.within h.nodup
theorem hung_f (ns : List Nd) (fr : List Int) (root : Int) (hn : ns.length ≤ 32) : ∀ (m : Nat) (S : Nat → Bool) (i : Int) (k : Nat), unseen ns.length S ≤ m → 6 * m + 6 ≤ k →
  ∃ o, tollbarref17_hung.f k ns root fr i (seenB ns.length S) = some o ∧ HungIs ns S i o := by
 intro m
 induction m with
 | zero =>
  intro S i k hm hk
  obtain ⟨k, rfl⟩ : ∃ j, k = j + 2 := ⟨k - 2, by omega⟩
  rw [tollbarref17_hung.f]
  by_cases h1 : i = -1
  ·subst h1
   exact ⟨_, if_pos rfl, .inl ⟨.nil, good_nil _ _ _, by rw [plusT_nil]; rfl⟩⟩
  rw [if_neg h1]
  have bad : (∀ p : Nat, i = (p : Int) → p < ns.length → S p = true) → ∀ t, ¬ Good (cellN ns) ns.length S i t := by
   intro hb t h
   rcases h.range with e | ⟨p, e, hp, hS⟩
   ·exact h1 e
   ·rw [hb p e hp] at hS; cases hS
  have j0 : tollbarref17_hung.j0 (k + 1) i (seenB ns.length S) true ns root fr = some ([], 0, 0, false, seenB ns.length S) := by rw [tollbarref17_hung.j0, if_pos rfl]
  by_cases h2 : i < 0
  ·rw [if_pos h2, j0]
   exact ⟨_, rfl, .inr ⟨bad (fun p e _ => by omega), S, fun _ h => h, rfl⟩⟩
  rw [if_neg h2]
  by_cases h3 : i ≥ (ns.length : Int)
  ·rw [if_pos h3, j0]
   exact ⟨_, rfl, .inr ⟨bad (fun p e _ => by omega), S, fun _ h => h, rfl⟩⟩
  rw [if_neg h3, if_pos (by omega), if_pos (by rw [seenB_length]; omega)]
  obtain ⟨p, rfl⟩ : ∃ p : Nat, i = (p : Int) := ⟨i.toNat, by omega⟩
  have hp : p < ns.length := by omega
  rw [seenB_rd S hp]
  cases hS : S p with
  | true =>
   rw [j0]
   exact ⟨_, rfl, .inr ⟨bad (fun q e _ => by rw [← (show p = q by omega)]; exact hS), S, fun _ h => h, rfl⟩⟩
  | false => exact absurd (unseen_plus hp hS) (by omega)
 | succ m ih =>
  intro S i k hm hk
  obtain ⟨k, rfl⟩ : ∃ j, k = j + 3 + 2 := ⟨k - 5, by omega⟩
  rw [tollbarref17_hung.f]
  by_cases h1 : i = -1
  ·subst h1
   exact ⟨_, if_pos rfl, .inl ⟨.nil, good_nil _ _ _, by rw [plusT_nil]; rfl⟩⟩
  rw [if_neg h1]
  have bad : (∀ p : Nat, i = (p : Int) → p < ns.length → S p = true) → ∀ t, ¬ Good (cellN ns) ns.length S i t := by
   intro hb t h
   rcases h.range with e | ⟨p, e, hp, hS⟩
   ·exact h1 e
   ·rw [hb p e hp] at hS; cases hS
  have j0 : tollbarref17_hung.j0 (k + 3 + 1) i (seenB ns.length S) true ns root fr = some ([], 0, 0, false, seenB ns.length S) := by rw [tollbarref17_hung.j0, if_pos rfl]
  by_cases h2 : i < 0
  ·rw [if_pos h2, j0]
   exact ⟨_, rfl, .inr ⟨bad (fun p e _ => by omega), S, fun _ h => h, rfl⟩⟩
  rw [if_neg h2]
  by_cases h3 : i ≥ (ns.length : Int)
  ·rw [if_pos h3, j0]
   exact ⟨_, rfl, .inr ⟨bad (fun p e _ => by omega), S, fun _ h => h, rfl⟩⟩
  rw [if_neg h3, if_pos (by omega), if_pos (by rw [seenB_length]; omega)]
  obtain ⟨p, rfl⟩ : ∃ p : Nat, i = (p : Int) := ⟨i.toNat, by omega⟩
  have hp : p < ns.length := by omega
  rw [seenB_rd S hp]
  cases hS : S p with
  | true =>
   rw [j0]
   exact ⟨_, rfl, .inr ⟨bad (fun q e _ => by rw [← (show p = q by omega)]; exact hS), S, fun _ h => h, rfl⟩⟩
  | false =>
   clear bad j0 h1 h2 h3
   have hlt := unseen_plus hp hS
   have hrd : rd_T64 ns (p : Int) = ns.getD p z64 := by unfold rd_T64; rw [Int.toNat_natCast]
   have c0 := cellN_at ns p (k := 0) (by omega)
   have c1 := cellN_at ns p (k := 1) (by omega)
   have c2 := cellN_at ns p (k := 2) (by omega)
   have c3 := cellN_at ns p (k := 3) (by omega)
   have c4 := cellN_at ns p (k := 4) (by omega)
   have c5 := cellN_at ns p (k := 5) (by omega)
   have c6 := cellN_at ns p (k := 6) (by omega)
   rw [Nat.add_zero] at c0
   simp only [fieldN] at c0 c1 c2 c3 c4 c5 c6
   rw [tollbarref17_hung.j0, if_neg (by decide), if_pos (by omega), if_pos (by rw [seenB_length]; omega), if_pos (by omega), hrd, Int.toNat_natCast, seenB_set, ← c0, ← c1, ← c2, ← c3, ← c4, ← c5, ← c6]
   obtain ⟨oL, eL, hL⟩ := ih (plus S p) (cellN ns (p * 7 + 3)) (k + 3) (by omega) (by omega)
   rw [eL]
   simp only [Option.bind_some]
   obtain ⟨S2, e2, hle2⟩ : ∃ S2, oL.2.2.2.2 = seenB ns.length S2 ∧ ∀ k, plus S p k = true → S2 k = true := by
    rcases hL with ⟨l, _, e⟩ | ⟨_, S', h', e⟩
    ·exact ⟨_, by rw [e], plusT_le⟩
    ·exact ⟨S', by rw [e], h'⟩
   have hle3 := unseen_le (nn := ns.length) hle2
   obtain ⟨oR, eR, hR⟩ := ih S2 (cellN ns (p * 7 + 4)) (k + 3) (by omega) (by omega)
   rw [e2, eR]
   simp only [Option.bind_some]
   have hle4 : ∀ k, S k = true → S2 k = true := fun k h => hle2 k (plus_le k h)
   have nogo : ∀ S', (∀ k, S k = true → S' k = true) → oR.2.2.2.2 = seenB ns.length S' → (∀ t, ¬ Good (cellN ns) ns.length S (p : Int) t) → (oL.1.length ≤ 1000 ∧ 0 ≤ oL.2.1 ∧ oL.2.1 ≤ 1000) → (oR.1.length ≤ 1000 ∧ 0 ≤ oR.2.1 ∧ oR.2.1 ≤ 1000) → ∃ o, tollbarref17_hung.j1 (k + 3) oR.2.2.2.2 oL.1 oL.2.1 oL.2.2.1 oR.1 oR.2.1 oR.2.2.1 true (cellN ns (p * 7)) (cellN ns (p * 7 + 1)) (cellN ns (p * 7 + 2)) (cellN ns (p * 7 + 3)) (cellN ns (p * 7 + 4)) (cellN ns (p * 7 + 5)) (cellN ns (p * 7 + 6)) = some o ∧ HungIs ns S (p : Int) o := by
    intro S' hS' eS' hno hbl hbr
    rw [hung_j1 k _ _ _ _ _ _ _ _ _ _ _ _ _ _ _ hbl.1 hbr.1 hbl.2 hbr.2, if_neg (fun g => by cases g.1)]
    exact ⟨_, rfl, .inr ⟨hno, S', hS', by rw [eS']⟩⟩
   rcases hL with ⟨l, gl, rfl⟩ | ⟨nl, S', h', rfl⟩
   ·have e2' : plusT (plus S p) l = S2 ∨ True := .inr trivial
    have ll := gl.len
    have lh := gl.low
    have hbl : ((items l).map toI).length ≤ 1000 ∧ (0 : Int) ≤ (hgt l : Int) ∧ (hgt l : Int) ≤ 1000 := ⟨by simp; omega, by omega, by omega⟩
    rw [if_pos rfl]
    have eS2 : ∀ q, q < ns.length → S2 q = plusT (plus S p) l q := fun q hq => by
     have := congrArg (fun xs => rdOf false xs (q : Int)) e2
     simp only [seenB_rd _ hq] at this
     exact this.symm
    have conv : ∀ r, Good (cellN ns) ns.length S2 (cellN ns (p * 7 + 4)) r ↔ Good (cellN ns) ns.length (plusT (plus S p) l) (cellN ns (p * 7 + 4)) r := fun r =>
     ⟨fun h => ⟨h.hang, h.within, h.nodup, fun q hq => by rw [← eS2 q (h.within q hq)]; exact h.off q hq, h.bal, h.may⟩, fun h => ⟨h.hang, h.within, h.nodup, fun q hq => by rw [eS2 q (h.within q hq)]; exact h.off q hq, h.bal, h.may⟩⟩
    rcases hR with ⟨r, gr, rfl⟩ | ⟨nr, S'', h'', rfl⟩
    ·have lr := gr.len
     have rh := gr.low
     have hbr : ((items r).map toI).length ≤ 1000 ∧ (0 : Int) ≤ (hgt r : Int) ∧ (hgt r : Int) ≤ 1000 := ⟨by simp; omega, by omega, by omega⟩
     have gr' := (conv r).1 gr
     have only : ∀ t, Good (cellN ns) ns.length S (p : Int) t → t = .node p ⟨cellN ns (p * 7), cellN ns (p * 7 + 1), cellN ns (p * 7 + 2)⟩ l r := by
      intro t ht
      obtain ⟨y, l', r', rfl, _, _, g1, g2⟩ := ht.parts
      have el := g1.one gl
      subst el
      have er := g2.one gr'
      subst er
      obtain ⟨i0, i1, i2⟩ := ht.hang.2.1
      rw [i0, i1, i2]
     rw [if_pos rfl, refItemMay_f]
     simp only [Option.bind_some]
     have hwl : wrap64 ((hgt l : Int) - hgt r) = (hgt l : Int) - hgt r := by unfold wrap64; omega
     have hwr : wrap64 ((hgt r : Int) - hgt l) = (hgt r : Int) - hgt l := by unfold wrap64; omega
     have hSl : ∀ k, S k = true → plusT S2 r k = true := fun k h => plusT_le k (hle4 k h)
     by_cases hmay : itmayF ⟨cellN ns (p * 7), cellN ns (p * 7 + 1), cellN ns (p * 7 + 2)⟩ = true
     ·rw [if_pos hmay, hwl, hwr]
      have hj : ∀ c, c = decide ((hgt l : Int) - hgt r > 1 ∨ (hgt r : Int) - hgt l > 1) → ∃ o, tollbarref17_hung.j1 (k + 3) (seenB ns.length (plusT S2 r)) ((items l).map toI) (hgt l) (most l) ((items r).map toI) (hgt r) (most r) c (cellN ns (p * 7)) (cellN ns (p * 7 + 1)) (cellN ns (p * 7 + 2)) (cellN ns (p * 7 + 3)) (cellN ns (p * 7 + 4)) (cellN ns (p * 7 + 5)) (cellN ns (p * 7 + 6)) = some o ∧ HungIs ns S (p : Int) o := by
       intro c hc
       rw [hung_j1 k _ _ _ _ _ _ _ _ _ _ _ _ _ _ _ hbl.1 hbr.1 hbl.2 hbr.2]
       by_cases hall : c = false ∧ cellN ns (p * 7 + 5) = 1 + max (hgt l : Int) (hgt r) ∧ cellN ns (p * 7 + 6) = max (cellN ns (p * 7 + 1)) (max (most l) (most r))
       ·rw [if_pos hall]
        have hb : ¬ ((hgt l : Int) - hgt r > 1 ∨ (hgt r : Int) - hgt l > 1) := by
         rw [hc] at hall
         exact of_decide_eq_false hall.1
        have gn := good_node (y := ⟨cellN ns (p * 7), cellN ns (p * 7 + 1), cellN ns (p * 7 + 2)⟩) hp hS ⟨rfl, rfl, rfl⟩ gl gr' hmay hall.2.1 hall.2.2 (by omega) (by omega)
        refine ⟨_, rfl, .inl ⟨_, gn, ?_⟩⟩
        have es : seenB ns.length (plusT S2 r) = seenB ns.length (plusT S (.node p ⟨cellN ns (p * 7), cellN ns (p * 7 + 1), cellN ns (p * 7 + 2)⟩ l r)) := by
         rw [← plusT_node]
         unfold seenB
         apply List.map_congr_left
         intro q hq
         unfold plusT at eS2 ⊢
         rw [eS2 q (List.mem_range.1 hq)]
        rw [es]
        simp only [items, hgt, most, List.map_append, List.map_cons]
        congr 2
        omega
       ·rw [if_neg hall]
        refine ⟨_, rfl, .inr ⟨fun t ht => hall ?_, _, hSl, rfl⟩⟩
        have et := only t ht
        subst et
        obtain ⟨_, _, _, _, g5, g6⟩ := ht.hang
        have gb := ht.bal
        simp only [bal] at gb
        refine ⟨?_, ?_, ?_⟩
        ·rw [hc]; exact decide_eq_false (by omega)
        ·rw [g5]; simp only [hgt]; omega
        ·rw [g6]; rfl
      by_cases hc1 : (hgt l : Int) - hgt r > 1
      ·rw [if_pos hc1]; exact hj true (by simp [hc1])
      ·rw [if_neg hc1]; exact hj _ (by simp [hc1])
     ·rw [if_neg hmay]
      exact nogo (plusT S2 r) hSl rfl (fun t ht => hmay (by have et := only t ht; subst et; exact ht.may _ (by simp [items]))) hbl hbr
    ·rw [if_neg (by simp)]
     exact nogo S'' (fun k h => h'' k (hle4 k h)) rfl (fun t ht => by
      obtain ⟨y, l', r', rfl, _, _, g1, g2⟩ := ht.parts
      have el := g1.one gl
      subst el
      exact nr r' ((conv r').2 g2)) hbl ⟨by simp, by simp, by simp⟩
   ·rw [if_neg (by simp)]
    have hno : ∀ t, ¬ Good (cellN ns) ns.length S (p : Int) t := fun t ht => by
     obtain ⟨y, l', r', rfl, _, _, g1, g2⟩ := ht.parts
     exact nl l' g1
    rcases hR with ⟨r, gr, rfl⟩ | ⟨nr, S'', h'', rfl⟩
    ·have lr := gr.len
     have rh := gr.low
     exact nogo (plusT S2 r) (fun k h => plusT_le k (hle4 k h)) rfl hno ⟨by simp, by simp, by simp⟩ ⟨by simp; omega, by simp, by simp; omega⟩
    ·exact nogo S'' (fun k h => h'' k (hle4 k h)) rfl hno ⟨by simp, by simp, by simp⟩ ⟨by simp, by simp, by simp⟩
end Go.Proofs.Ytgkjpffbgnljeaa.Man
/- tollbarref17.All: what it answers, plain. -/
set_option linter.unusedVariables false
set_option linter.unusedSimpArgs false
namespace Go.Proofs.Ytgkjpffbgnljeaa.Man
open Go.RowKit Go.Proofs.Ytgkjpffbgnljeaa.QT Go.Proofs.Ytgkjpffbgnljeaa.QA Go.Proofs.Ytgkjpffbgnljeaa.TreeM Go.Proofs.YtgkjpffbgnljeaaW.PrintWords Go.Proofs.YtgkjpffbgnljeaaW.PrintLast Go.Proofs.YtgkjpffbgnljeaaW.PrintMore
theorem rdN_cells (ns : List Nd) (p : Nat) : rd_T64 ns (p : Int) = nodeN (cellN ns) p := by unfold rd_T64; rw [Int.toNat_natCast, nodeN_cellN]
theorem all_l0 (ns : List Nd) (fr : List Int) (root : Int) (xs : List It) (kk : Nat) (hl : fr.length ≤ 1000) : ∀ (n j : Nat) (S : Nat → Bool), n + j = fr.length →
  tollbarref17_All.l0 (n + 1 + kk) (seenB ns.length S) xs (j : Int) ns root fr = (match freeF (cellN ns) ns.length S (fr.drop j) with | none => some ([], false) | some S' => tollbarref17_All.l1 kk (seenB ns.length S') xs 0) := by
 intro n
 induction n with
 | zero =>
  intro j S hj
  rw [show 0 + 1 + kk = kk + 1 by omega, tollbarref17_All.l0, if_neg (by omega), List.drop_eq_nil_of_le (by omega)]
  rfl
 | succ n ih =>
  intro j S hj
  have hw : wrap64 ((j : Int) + 1) = ((j + 1 : Nat) : Int) := by unfold wrap64; omega
  have hjl : j < fr.length := by omega
  have hd : fr.drop j = fr[j] :: fr.drop (j + 1) := List.drop_eq_getElem_cons hjl
  have hrd : rd fr (j : Int) = fr[j] := by unfold rd; rw [Int.toNat_natCast, List.getD, List.getElem?_eq_getElem hjl]; rfl
  rw [show n + 1 + 1 + kk = (n + 1 + kk) + 1 by omega, tollbarref17_All.l0, if_pos (by omega), if_pos (by omega), hrd, hd, hw]
  generalize fr[j] = x
  show _ = match (if freeOk (cellN ns) ns.length S x = true then freeF (cellN ns) ns.length (plus S x.toNat) (fr.drop (j + 1)) else none) with | none => some ([], false) | some S' => tollbarref17_All.l1 kk (seenB ns.length S') xs 0
  by_cases h0 : x < 0
  ·rw [if_pos h0, if_neg (fun g => by have := (freeOk_iff.1 g).1; omega)]
  rw [if_neg h0]
  by_cases h1 : x ≥ (ns.length : Int)
  ·rw [if_pos h1, if_neg (fun g => by have := (freeOk_iff.1 g).2.1; omega)]
  obtain ⟨p, rfl⟩ : ∃ p : Nat, x = (p : Int) := ⟨x.toNat, by omega⟩
  have hp : p < ns.length := by omega
  rw [if_neg h1, if_pos (by omega), if_pos (by rw [seenB_length]; omega), seenB_rd S hp, Int.toNat_natCast]
  cases hS : S p with
  | true => rw [if_pos rfl, if_neg (fun g => by have := (freeOk_iff.1 g).2.2.1; rw [Int.toNat_natCast, hS] at this; cases this)]
  | false =>
   rw [if_neg (by decide), if_pos (by omega), rdN_cells, seenB_set]
   by_cases hz : ∀ k, k < 7 → cellN ns (p * 7 + k) = 0
   ·have z0 := hz 0 (by omega)
    have z1 := hz 1 (by omega)
    have z2 := hz 2 (by omega)
    have z3 := hz 3 (by omega)
    have z4 := hz 4 (by omega)
    have z5 := hz 5 (by omega)
    have z6 := hz 6 (by omega)
    rw [Nat.add_zero] at z0
    rw [if_pos (freeOk_iff.2 ⟨by omega, by omega, by rw [Int.toNat_natCast]; exact hS, by rw [Int.toNat_natCast]; exact hz⟩), if_neg (by simp [nodeN, z0, z1, z2, z3, z4, z5, z6])]
    exact ih (j + 1) (plus S p) (by omega)
   ·have hnf : ¬ freeOk (cellN ns) ns.length S (p : Int) = true := fun g => hz (by have := (freeOk_iff.1 g).2.2.2; rw [Int.toNat_natCast] at this; exact this)
    rw [if_neg hnf]
    refine if_pos ?_
    refine Classical.byContradiction (fun hn => hz (fun k hk => ?_))
    simp [nodeN] at hn
    obtain ⟨⟨⟨h0, h1⟩, h2⟩, h3, h4, h5, h6⟩ := hn
    rcases k with _ | _ | _ | _ | _ | _ | _ | k
    ·rw [Nat.add_zero]; exact h0
    ·exact h1
    ·exact h2
    ·exact h3
    ·exact h4
    ·exact h5
    ·exact h6
    ·omega
open Classical in
theorem all_l1 (nn : Nat) (S : Nat → Bool) (xs : List It) (kk : Nat) (hl : nn ≤ 1000) : ∀ (n j : Nat), n + j = nn →
  tollbarref17_All.l1 (n + 1 + kk) (seenB nn S) xs (j : Int) = (if ∀ p, j ≤ p → p < nn → S p = true then tollbarref17_All.l2 kk xs 1 else some ([], false)) := by
 intro n
 induction n with
 | zero =>
  intro j hj
  rw [show 0 + 1 + kk = kk + 1 by omega, tollbarref17_All.l1, if_neg (by rw [seenB_length]; omega), if_pos (fun p _ _ => by omega)]
 | succ n ih =>
  intro j hj
  have hw : wrap64 ((j : Int) + 1) = ((j + 1 : Nat) : Int) := by unfold wrap64; omega
  rw [show n + 1 + 1 + kk = (n + 1 + kk) + 1 by omega, tollbarref17_All.l1, if_pos (by rw [seenB_length]; omega), if_pos (by omega), seenB_rd S (by omega), hw]
  cases hS : S j with
  | true =>
   rw [if_pos rfl, ih (j + 1) (by omega)]
   by_cases h : ∀ p, j + 1 ≤ p → p < nn → S p = true
   ·rw [if_pos h, if_pos (fun p hp1 hp2 => by
     by_cases e : p = j
     ·rw [e]; exact hS
     ·exact h p (by omega) hp2)]
   ·rw [if_neg h, if_neg (fun g => h (fun p hp1 hp2 => g p (by omega) hp2))]
  | false => rw [if_neg (by decide), if_neg (fun g => by have := g j (Nat.le_refl _) (by omega); rw [hS] at this; cases this)]
theorem rdI_get (ys : List Itm) (j : Nat) (hj : j < ys.length) : rd_T50 (ys.map toI) (j : Int) = toI ys[j] := by
 unfold rd_T50
 rw [Int.toNat_natCast, List.getD, List.getElem?_map, List.getElem?_eq_getElem hj]
 rfl
theorem all_l2 (ys : List Itm) (kk : Nat) (hl : ys.length ≤ 1000) : ∀ (n j : Nat), n + (j + 1) = ys.length ∨ (n = 0 ∧ ys.length ≤ j + 1) → Row (ys.take (j + 1)) →
  tollbarref17_All.l2 (n + 1 + kk) (ys.map toI) ((j + 1 : Nat) : Int) = (if Row ys then some (ys.map toI, true) else some ([], false)) := by
 intro n
 induction n with
 | zero =>
  intro j hj hr
  have hle : ys.length ≤ j + 1 := by omega
  rw [List.take_of_length_le hle] at hr
  rw [show 0 + 1 + kk = kk + 1 by omega, tollbarref17_All.l2, if_neg (by simp; omega), if_pos hr]
 | succ n ih =>
  intro j hj hr
  have hjl : j + 1 < ys.length := by omega
  have hw : wrap64 (((j + 1 : Nat) : Int) - 1) = (j : Int) := by unfold wrap64; omega
  have hw2 : wrap64 (((j + 1 : Nat) : Int) + 1) = ((j + 1 + 1 : Nat) : Int) := by unfold wrap64; omega
  rw [show n + 1 + 1 + kk = (n + 1 + kk) + 1 by omega, tollbarref17_All.l2, if_pos (by simp; omega), hw, hw2, if_pos (by omega), if_pos (by simp; omega), if_pos (by omega), rdI_get ys j (by omega), rdI_get ys (j + 1) hjl]
  have hls := less_f ys[j] ys[j + 1]
  simp only [toI] at hls ⊢
  rw [hls]
  simp only [Option.bind_some]
  by_cases h : lt ys[j] ys[j + 1]
  ·rw [if_pos (decide_eq_true h)]
   exact ih (j + 1) (by omega) (row_snoc hjl hr h)
  ·rw [if_neg (by simp [h]), if_neg (row_not hjl h)]
noncomputable def allF (ns : List Nd) (root : Int) (fr : List Int) : List It × Bool := if mayT (cellN ns) ns.length root fr = true then ((items (treeOf (cellN ns) ns.length root fr)).map toI, true) else ([], false)
theorem allF_yes {ns : List Nd} {root : Int} {fr : List Int} {t : T} (h : IsT (cellN ns) ns.length root fr t) : allF ns root fr = ((items t).map toI, true) := by unfold allF; rw [if_pos (mayT_true.2 ⟨t, h⟩), treeOf_is h]
theorem allF_no {ns : List Nd} {root : Int} {fr : List Int} (h : ∀ t, ¬ IsT (cellN ns) ns.length root fr t) : allF ns root fr = ([], false) := by unfold allF; rw [if_neg (by rw [mayT_false.2 h]; decide)]
theorem all_f (ns : List Nd) (fr : List Int) (root : Int) (k : Nat) (hk : 400 ≤ k) : tollbarref17_All.f k ns root fr = some (allF ns root fr) := by
 obtain ⟨k, rfl⟩ : ∃ j, k = j + 1 := ⟨k - 1, by omega⟩
 unfold tollbarref17_All.f
 have j0 : tollbarref17_All.j0 (k + 1) true ns root fr = some ([], false) := by rw [tollbarref17_All.j0, if_pos rfl]
 by_cases h1 : (ns.length : Int) > 32
 ·rw [if_pos h1, j0, allF_no (fun t h => by have := h.size; omega)]
 rw [if_neg h1]
 by_cases h2 : (fr.length : Int) > (ns.length : Int)
 ·rw [decide_eq_true h2, j0, allF_no (fun t h => by have := h.count; omega)]
 have hn : ns.length ≤ 32 := by omega
 have hrep : List.replicate ((ns.length : Int) : Int).toNat false = seenB ns.length (fun _ => false) := by
  rw [Int.toNat_natCast]
  unfold seenB
  apply List.ext_getElem?
  intro j
  rw [List.getElem?_map]
  by_cases hj : j < ns.length
  ·rw [List.getElem?_range hj, List.getElem?_replicate, if_pos hj]; rfl
  ·rw [List.getElem?_eq_none (by simp; omega), List.getElem?_eq_none (by simp; omega)]; rfl
 rw [decide_eq_false h2, tollbarref17_All.j0, if_neg (by decide), if_pos (by omega), if_pos (by omega), hrep]
 have hu : unseen ns.length (fun _ => false) ≤ 32 := by
  unfold unseen
  refine Nat.le_trans List.countP_le_length ?_
  simp
  omega
 obtain ⟨o, eo, hO⟩ := hung_f ns fr root hn 32 (fun _ => false) root k hu (by omega)
 rw [eo]
 simp only [Option.bind_some]
 rcases hO with ⟨t, gt, rfl⟩ | ⟨hno, S', _, rfl⟩
 ·have ht := gt.len
  obtain ⟨kk, rfl⟩ : ∃ kk, k = fr.length + 1 + kk := ⟨k - fr.length - 1, by omega⟩
  rw [if_pos rfl]
  have a0 := all_l0 ns fr root ((items t).map toI) kk (by omega) fr.length 0 (plusT (fun _ => false) t) (by omega)
  rw [List.drop_zero] at a0
  refine Eq.trans a0 ?_
  cases hf : freeF (cellN ns) ns.length (plusT (fun _ => false) t) fr with
  | none => rw [allF_no (fun s hs => by
    have e := hs.good.one gt
    subst e
    obtain ⟨S', e1, _⟩ := hs.free
    rw [hf] at e1; cases e1)]
  | some S' =>
   obtain ⟨k2, rfl⟩ : ∃ k2, kk = ns.length + 1 + k2 := ⟨kk - ns.length - 1, by omega⟩
   show tollbarref17_All.l1 _ _ _ _ = _
   refine Eq.trans (all_l1 ns.length S' _ k2 (by omega) ns.length 0 (by omega)) ?_
   by_cases hall : ∀ p, 0 ≤ p → p < ns.length → S' p = true
   ·rw [if_pos hall]
    obtain ⟨k3, rfl⟩ : ∃ k3, k2 = ((items t).length - 1) + 1 + k3 := ⟨k2 - ((items t).length - 1) - 1, by omega⟩
    refine Eq.trans (all_l2 (items t) k3 (by omega) ((items t).length - 1) 0 (by omega) (by cases items t with
     | nil => exact List.Pairwise.nil
     | cons x ys => simp)) ?_
    by_cases hrow : Row (items t)
    ·rw [if_pos hrow, allF_yes ⟨hn, gt, ⟨S', hf, fun p hp => hall p (Nat.zero_le _) hp⟩, hrow⟩]
    ·rw [if_neg hrow, allF_no (fun s hs => by
      have e := hs.good.one gt
      subst e
      exact hrow hs.row)]
   ·rw [if_neg hall, allF_no (fun s hs => by
     have e := hs.good.one gt
     subst e
     obtain ⟨S2, e1, e2⟩ := hs.free
     rw [hf] at e1
     injection e1 with e1
     subst e1
     exact hall (fun p _ hp => e2 p hp))]
 ·rw [if_neg (by simp), allF_no (fun t h => hno t h.good)]
end Go.Proofs.Ytgkjpffbgnljeaa.Man
/- tollbarref17.There, With, Without, InsertError; SameItems, SameInts, SameTree, CopyTree: what they answer, plain. -/
set_option linter.unusedVariables false
set_option linter.unusedSimpArgs false
namespace Go.Proofs.Ytgkjpffbgnljeaa.Man
open Go.RowKit Go.Proofs.Ytgkjpffbgnljeaa.QT Go.Proofs.Ytgkjpffbgnljeaa.QA Go.Proofs.Ytgkjpffbgnljeaa.TreeM Go.Proofs.YtgkjpffbgnljeaaW.PrintWords Go.Proofs.YtgkjpffbgnljeaaW.PrintLast Go.Proofs.YtgkjpffbgnljeaaW.PrintMore
theorem itm_eq {x y : Itm} : x = y ↔ x.fr = y.fr ∧ x.to_ = y.to_ ∧ x.id = y.id := by
 obtain ⟨a, b, c⟩ := x
 obtain ⟨d, e, f⟩ := y
 simp
theorem wrapN (j : Nat) (h : j ≤ 100000000000000) : wrap64 ((j : Int) + 1) = ((j + 1 : Nat) : Int) := by unfold wrap64; omega
theorem there_l0 (ys : List Itm) (x : Itm) (kk : Nat) (hl : ys.length ≤ 100000000000000) : ∀ (n j : Nat), n + j = ys.length →
  tollbarref17_There.l0 (n + 1 + kk) (ys.map toI) (j : Int) x.fr x.to_ x.id = some (decide (x ∈ ys.drop j)) := by
 intro n
 induction n with
 | zero =>
  intro j hj
  rw [show 0 + 1 + kk = kk + 1 by omega, tollbarref17_There.l0, if_neg (by simp; omega), List.drop_eq_nil_of_le (by omega)]
  simp
 | succ n ih =>
  intro j hj
  have hjl : j < ys.length := by omega
  have hd : ys.drop j = ys[j] :: ys.drop (j + 1) := List.drop_eq_getElem_cons hjl
  rw [show n + 1 + 1 + kk = (n + 1 + kk) + 1 by omega, tollbarref17_There.l0, if_pos (by simp; omega), if_pos (by omega), rdI_get ys j hjl, hd, wrapN j (by omega), ih (j + 1) (by omega)]
  by_cases h : x = ys[j]
  ·rw [if_pos (by rw [h]; simp [toI])]
   simp [← h]
  ·rw [if_neg (by
    intro g
    simp [toI] at g
    exact h (itm_eq.2 ⟨g.1.1.symm, g.1.2.symm, g.2.symm⟩))]
   have e : (x ∈ ys[j] :: ys.drop (j + 1)) ↔ x ∈ ys.drop (j + 1) := by rw [List.mem_cons]; exact ⟨fun g => g.resolve_left h, Or.inr⟩
   rw [decide_eq_decide.2 e]
theorem there_f (ys : List Itm) (x : Itm) (k : Nat) (hl : ys.length ≤ 1000) (hk : 1001 ≤ k) : tollbarref17_There.f k (ys.map toI) x.fr x.to_ x.id = some (decide (x ∈ ys)) := by
 obtain ⟨kk, rfl⟩ : ∃ kk, k = ys.length + 1 + kk := ⟨k - ys.length - 1, by omega⟩
 exact there_l0 ys x kk (by omega) ys.length 0 (by omega)
theorem with_put (ys : List Itm) (x : Itm) (kk : Nat) (hl : ys.length ≤ 1000) : ∀ (n j : Nat) (out : List It), n + j = ys.length → out.length + n ≤ 5000 →
  tollbarref17_With.l0 (n + 1 + kk) (ys.map toI) out true (j : Int) x.fr x.to_ x.id = some (out ++ (ys.drop j).map toI) := by
 intro n
 induction n with
 | zero =>
  intro j out hj ho
  rw [show 0 + 1 + kk = kk + 1 by omega, tollbarref17_With.l0, if_neg (by simp; omega), if_pos rfl, List.drop_eq_nil_of_le (by omega)]
  simp
 | succ n ih =>
  intro j out hj ho
  have hjl : j < ys.length := by omega
  have hd : ys.drop j = ys[j] :: ys.drop (j + 1) := List.drop_eq_getElem_cons hjl
  rw [show n + 1 + 1 + kk = (n + 1 + kk) + 1 by omega, tollbarref17_With.l0, if_pos (by simp; omega), if_pos rfl, if_pos (by omega), rdI_get ys j hjl, hd, wrapN j (by omega), if_pos (by omega), ih (j + 1) _ (by omega) (by simp; omega)]
  simp only [List.append_assoc, List.singleton_append, List.map_cons, toI]
theorem with_l0 (ys : List Itm) (x : Itm) (kk : Nat) (hl : ys.length ≤ 1000) : ∀ (n j : Nat) (out : List It), n + j = ys.length → out.length + n ≤ 4000 →
  tollbarref17_With.l0 (n + 1 + kk) (ys.map toI) out false (j : Int) x.fr x.to_ x.id = some (out ++ (withF (ys.drop j) x).map toI) := by
 intro n
 induction n with
 | zero =>
  intro j out hj ho
  rw [show 0 + 1 + kk = kk + 1 by omega, tollbarref17_With.l0, if_neg (by simp; omega), if_neg (by decide), if_pos (by omega), List.drop_eq_nil_of_le (by omega)]
  simp [withF, toI]
 | succ n ih =>
  intro j out hj ho
  have hjl : j < ys.length := by omega
  have hd : ys.drop j = ys[j] :: ys.drop (j + 1) := List.drop_eq_getElem_cons hjl
  have hls := less_f x ys[j]
  rw [show n + 1 + 1 + kk = (n + 1 + kk) + 1 by omega, tollbarref17_With.l0, if_pos (by simp; omega), if_neg (by decide), if_pos (by omega), rdI_get ys j hjl, hd, wrapN j (by omega)]
  simp only [toI] at hls ⊢
  rw [hls]
  simp only [Option.bind_some]
  by_cases h : lt x ys[j]
  ·rw [if_pos (decide_eq_true h), if_pos (by omega), if_pos (by simp; omega)]
   have := with_put ys x kk hl n (j + 1) (out ++ [(⟨⟨x.fr, x.to_⟩, x.id⟩ : It)] ++ [(⟨⟨ys[j].fr, ys[j].to_⟩, ys[j].id⟩ : It)]) (by omega) (by simp; omega)
   refine this.trans ?_
   simp only [List.append_assoc, List.singleton_append, List.map_cons, List.cons_append, List.nil_append, withF, if_pos h, toI]
  ·rw [if_neg (by simp [h]), if_pos (by omega)]
   have := ih (j + 1) (out ++ [(⟨⟨ys[j].fr, ys[j].to_⟩, ys[j].id⟩ : It)]) (by omega) (by simp; omega)
   refine this.trans ?_
   simp only [List.append_assoc, List.singleton_append, List.map_cons, List.cons_append, List.nil_append, withF, if_neg h, toI]
theorem with_f (ys : List Itm) (x : Itm) (k : Nat) (hl : ys.length ≤ 1000) (hk : 1001 ≤ k) : tollbarref17_With.f k (ys.map toI) x.fr x.to_ x.id = some ((withF ys x).map toI) := by
 obtain ⟨kk, rfl⟩ : ∃ kk, k = ys.length + 1 + kk := ⟨k - ys.length - 1, by omega⟩
 exact with_l0 ys x kk hl ys.length 0 [] (by omega) (by simp; omega)
theorem without_l0 (ys : List Itm) (x : Itm) (kk : Nat) (hl : ys.length ≤ 1000) : ∀ (n j : Nat) (out : List It), n + j = ys.length → out.length + n ≤ 4000 →
  tollbarref17_Without.l0 (n + 1 + kk) (ys.map toI) out (j : Int) x.fr x.to_ x.id = some (out ++ (sans (ys.drop j) x).map toI) := by
 intro n
 induction n with
 | zero =>
  intro j out hj ho
  rw [show 0 + 1 + kk = kk + 1 by omega, tollbarref17_Without.l0, if_neg (by simp; omega), List.drop_eq_nil_of_le (by omega)]
  simp [sans]
 | succ n ih =>
  intro j out hj ho
  have hjl : j < ys.length := by omega
  have hd : ys.drop j = ys[j] :: ys.drop (j + 1) := List.drop_eq_getElem_cons hjl
  rw [show n + 1 + 1 + kk = (n + 1 + kk) + 1 by omega, tollbarref17_Without.l0, if_pos (by simp; omega), if_pos (by omega), rdI_get ys j hjl, hd, wrapN j (by omega)]
  by_cases h : ys[j] = x
  ·rw [if_neg (by rw [h]; simp [toI]), h, sans_cons_eq]
   exact ih (j + 1) out (by omega) (by omega)
  ·rw [if_pos (by
    refine Classical.byContradiction (fun g => h ?_)
    simp [toI] at g
    exact itm_eq.2 ⟨g.1.1, g.1.2, g.2⟩), sans_cons_ne h, if_pos (by omega)]
   have := ih (j + 1) (out ++ [toI ys[j]]) (by omega) (by simp; omega)
   refine Eq.trans this ?_
   simp
theorem without_f (ys : List Itm) (x : Itm) (k : Nat) (hl : ys.length ≤ 1000) (hk : 1001 ≤ k) : tollbarref17_Without.f k (ys.map toI) x.fr x.to_ x.id = some ((sans ys x).map toI) := by
 obtain ⟨kk, rfl⟩ : ∃ kk, k = ys.length + 1 + kk := ⟨k - ys.length - 1, by omega⟩
 exact without_l0 ys x kk hl ys.length 0 [] (by omega) (by simp; omega)
theorem sameItems_l0 (xs : List It) (kk : Nat) (hl : xs.length ≤ 100000000000000) : ∀ (n j : Nat), n + j = xs.length → tollbarlaw0_SameItems.l0 (n + 1 + kk) xs xs (j : Int) = some true := by
 intro n
 induction n with
 | zero => intro j hj; rw [show 0 + 1 + kk = kk + 1 by omega, tollbarlaw0_SameItems.l0, if_neg (by omega)]
 | succ n ih =>
  intro j hj
  rw [show n + 1 + 1 + kk = (n + 1 + kk) + 1 by omega, tollbarlaw0_SameItems.l0, if_pos (by omega), if_pos (by omega), if_pos (by omega), if_neg (by simp), wrapN j (by omega), ih (j + 1) (by omega)]
theorem sameItems_f (xs : List It) (k : Nat) (hl : xs.length ≤ 100000000000000) (hk : xs.length + 1 ≤ k) : tollbarlaw0_SameItems.f k xs xs = some true := by
 obtain ⟨kk, rfl⟩ : ∃ kk, k = xs.length + 1 + kk := ⟨k - xs.length - 1, by omega⟩
 unfold tollbarlaw0_SameItems.f
 rw [if_pos rfl]
 exact sameItems_l0 xs kk hl xs.length 0 (by omega)
end Go.Proofs.Ytgkjpffbgnljeaa.Man
/- The bits of a small number. -/
set_option linter.unusedVariables false
set_option linter.unusedSimpArgs false
namespace Go.Proofs.Ytgkjpffbgnljeaa.Man
open Go.RowKit Go.Proofs.Ytgkjpffbgnljeaa.QT Go.Proofs.Ytgkjpffbgnljeaa.QA Go.Proofs.Ytgkjpffbgnljeaa.TreeM Go.Proofs.YtgkjpffbgnljeaaW.PrintWords Go.Proofs.YtgkjpffbgnljeaaW.PrintLast Go.Proofs.YtgkjpffbgnljeaaW.PrintMore
theorem and_range (x : Int) (m : Nat) (hm : m < 2 ^ 62) : 0 ≤ Go.bits .and .i64 x (m : Int) ∧ Go.bits .and .i64 x (m : Int) ≤ (m : Int) := by
 have h1 : (BitVec.ofInt 64 x &&& BitVec.ofInt 64 (m : Int)).toNat ≤ m := by
  rw [BitVec.toNat_and, BitVec.ofInt_natCast, BitVec.toNat_ofNat, Nat.mod_eq_of_lt (by omega)]
  exact Nat.and_le_right
 have h2 : Go.bits .and .i64 x (m : Int) = IntKind.i64.wrap ((BitVec.ofInt 64 x &&& BitVec.ofInt 64 (m : Int)).toNat : Int) := rfl
 rw [h2, IntKind.wrap_i64]
 omega
end Go.Proofs.Ytgkjpffbgnljeaa.Man
