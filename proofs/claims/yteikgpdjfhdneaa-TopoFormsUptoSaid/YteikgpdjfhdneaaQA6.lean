-- written by this session's program mprint.py: functions of the Go program, and their contracts
import Derived.Test.YteikgpdjfhdneaaQA0
namespace Go.Proofs.Yteikgpdjfhdneaa.QA
open Go.RowKit Go.Proofs.Yteikgpdjfhdneaa.QT Go.Proofs.Yteikgpdjfhdneaa.Man Go.Proofs.YteikgpdjfhdneaaW.PrintWords Go.Proofs.YteikgpdjfhdneaaW.PrintLast Go.Proofs.YteikgpdjfhdneaaW.PrintMore
attribute [local go_sem] max2_int min2_int max_two min_two max_three min_three max_four min_four   -- for this text's walks alone
set_option linter.unusedVariables false
set_option linter.unusedSimpArgs false

/-! ### tollbarlaw0_SpoilGraph: function 21 -/
def tollbarlaw0_SpoilGraph.l0 : Nat → Int → Int → List (S60) → Option ((List (S60)))
  | 0, _, _, _ => none
  | k + 1, x2, x226000, x226001 => if x2 < (x226001.length : Int) then (if 0 ≤ x2 then (tollbarlaw0_SpoilGraph.l0 k (wrap64 (x2 + 1)) x226000 (x226001.set (x2 : Int).toNat (⟨(-3), (-5), (-7)⟩ : S60))) else (none)) else (some x226001)
def tollbarlaw0_SpoilGraph.f (k : Nat) (a0_0 : Int) (l0_1 : List (S60)) : Option ((List (S60))) := tollbarlaw0_SpoilGraph.l0 k 0 a0_0 l0_1
theorem tollbarlaw0_SpoilGraph.mono_l : ∀ k, (∀ y0 y1 y2, LeO (tollbarlaw0_SpoilGraph.l0 k y0 y1 y2) (tollbarlaw0_SpoilGraph.l0 (k + 1) y0 y1 y2))
  | 0 => fun _ _ _ r h => by simp [tollbarlaw0_SpoilGraph.l0] at h
  | k + 1 => by
    have ih0 := tollbarlaw0_SpoilGraph.mono_l k
    · intro y0 y1 y2
      unfold tollbarlaw0_SpoilGraph.l0
      repeat' first
      | (with_reducible exact ih0 _ _ _)
      | (with_reducible exact LeO.refl _)
      | (with_reducible exact LeO.none _)
      | (with_reducible refine LeO.ite ?_ ?_)
      | (with_reducible refine LeO.bind ?_ (fun _ => ?_))
      | exact ih0 _ _ _
      | exact LeO.none _
      | refine LeO.ite ?_ ?_
      | refine LeO.bind ?_ (fun _ => ?_)
theorem tollbarlaw0_SpoilGraph.mono : ∀ a0 a1 k, LeO (tollbarlaw0_SpoilGraph.f k a0 a1) (tollbarlaw0_SpoilGraph.f (k + 1) a0 a1) := by
  intro a0 a1 k
  have ih0 := tollbarlaw0_SpoilGraph.mono_l k
  unfold tollbarlaw0_SpoilGraph.f
  repeat' first
      | (with_reducible exact ih0 _ _ _)
      | (with_reducible exact LeO.refl _)
      | (with_reducible exact LeO.none _)
      | (with_reducible refine LeO.ite ?_ ?_)
      | (with_reducible refine LeO.bind ?_ (fun _ => ?_))
      | exact ih0 _ _ _
      | exact LeO.none _
      | refine LeO.ite ?_ ?_
      | refine LeO.bind ?_ (fun _ => ?_)
set_option maxHeartbeats 8000000 in
set_option maxRecDepth 100000 in
theorem tollbarlaw0_SpoilGraph.calls (k : Nat) (a0_0 : Int) (P0_1_ : Nat → Prop) (u9000_ : Value) (l0_1 : List (S60)) (r : List (S60)) (w0 w : World) (hB : Below w0.heap.size w0 w) (ho0_1 : Kd.R k60 60 w w0.heap.size P0_1_ u9000_ l0_1) (h : tollbarlaw0_SpoilGraph.f k a0_0 l0_1 = some r) :
    Calls Try.prog 21 #[.agg #[.int .i64 a0_0, u9000_]] w fun e w' => e = .returned (.tuple #[]) ∧ Kd.R k60 60 w' w0.heap.size (fun k_ => (P0_1_ k_ ∨ w.heap.size ≤ k_)) u9000_ r ∧ Below w0.heap.size w0 w' ∧ Kept w w' (fun k_ => P0_1_ k_) := by
  have hu24 := Try.underlying24
  have hu60 := Try.underlying60
  have HO0_1 := Aside0.mk (show Kd.R k60 60 w w0.heap.size (fun k_ => (P0_1_ k_ ∨ w.heap.size ≤ k_)) u9000_ l0_1 from Kd.R_mono ho0_1 (fun k_ hk => (.inl hk)))
  have HK := Aside0.mk (Kept.refl w (fun k_ => P0_1_ k_))
  have HW0 := Aside0.mk hB.size
  have HB := Aside0.mk hB
  clear hB
  have H : (tollbarlaw0_SpoilGraph.l0 k 0 a0_0 l0_1) = some r := h
  clear h
  have H' := Aside0.mk H
  clear H
  obtain ⟨Ao2, co2, eo2⟩ := Kd.R_slice HO0_1.out
  subst eo2
  go_enter Try.func21, Try.ntmps21
  go_wp2_with (first | ((with_reducible refine gate_dst (N := 1) rfl ?_); refine box_event ?hg (N := 1) ?hd (cs := #[.int .i64 a0_0, .slice Ao2 l0_1.length co2]) (t := 24) ?hr ?_; (case hd => rfl); (case hg => rfl); (case hr => first | (go_simp; done) | (go_simp; rfl)); intro gb225 hg w3 hbox hb; have n0_ := Aside0.mk (Kd.R_below (by (with_reducible repeat (first | apply Kd.R_alloc | apply Kd.R_drewN | apply Kd.R_drew)); exact HO0_1.out) hb); have n1_ := Aside0.mk (Kept.below (S := (fun k_ => P0_1_ k_)) (by repeat (first | (with_reducible first | exact HK.out | apply Kept.alloc | apply Kept.drewN | apply Kept.drew) | exact HK.out)) hb); have n2_ := Aside0.mk (below_step (by repeat (first | (with_reducible first | exact HB.out | apply below_alloc | apply pw_below_drewN | apply below_drew1) | exact HB.out)) hb); have n3_ := Aside0.mk (hbox); have n4_ := Aside0.mk ((by rw [hg]; exact (by first | exact HK.out.1 | exact (show Kept w _ (fun k_ => P0_1_ k_) from by repeat (first | (with_reducible first | exact HK.out | apply Kept.alloc | apply Kept.drewN | apply Kept.drew) | exact HK.out)).1) : w.heap.size ≤ gb225)); have n5_ := Aside0.mk ((by rw [hg]; exact (below_size (by repeat (first | (with_reducible first | exact HB.out | apply below_alloc | apply pw_below_drewN | apply below_drew1) | exact HB.out))) : w0.heap.size ≤ gb225)); clear HO0_1; clear HK; clear HB; have HO0_1 := n0_; have HK := n1_; have HB := n2_; have BK225 := n3_; have GW225 := n4_; have GE225 := n5_; clear n0_ n1_ n2_ n3_ n4_ n5_; clear hb hbox hg))
  go_loopg [2] k (fun kq v2 w' => ∃ (x2_1 : Int) (x226001_1 : List (S60)), v2 = .int .i64 x2_1 ∧ Aside0 (tollbarlaw0_SpoilGraph.l0 kq x2_1 a0_0 x226001_1 = some r) ∧ Aside0 (kq ≤ k) ∧ Aside0 (Kd.R k60 60 w' w0.heap.size (fun k_ => (P0_1_ k_ ∨ w.heap.size ≤ k_)) (.slice Ao2 l0_1.length co2) x226001_1) ∧ Aside0 (w'.heap[gb225]? = some (.cells #[.int .i64 a0_0, (.slice Ao2 l0_1.length co2)] 24 (0, 0))) ∧ Aside0 (Kept w w' (fun k_ => P0_1_ k_)) ∧ Aside0 (Below w0.heap.size w0 w'))
  case atStart => exact ⟨(0), (l0_1), (by first | rfl | (simp; done) | (simp [*]; done)), H', ⟨Nat.le_refl _⟩, ⟨by (with_reducible repeat (first | apply Kd.R_alloc | apply Kd.R_drewN | apply Kd.R_drew)); exact HO0_1.out⟩, ⟨by (with_reducible repeat (first | refine blk_drewN ?_ _ | refine blk_drew ?_ | refine blk_alloc ?_ _)); exact BK225.out⟩, ⟨by repeat (first | (with_reducible first | exact HK.out | apply Kept.alloc | apply Kept.drewN | apply Kept.drew | refine Kept.setCell ?_ (.inr GW225.out) _) | exact HK.out)⟩, ⟨by repeat (first | (with_reducible first | exact HB.out | apply below_alloc | apply pw_below_drewN | apply below_drew1 | refine below_set ?_ GE225.out) | exact HB.out)⟩⟩
  case round =>
    clear H'
    try clear c2
    try clear p2
    obtain ⟨x2_1, x226001_1, rfl, HA, HK1, HO_226001, BK225, HK, HB⟩ := hrel
    have hl226001_1 := (Kd.R_reads' HO_226001.out).1
    rw [hl226001_1] at HO_226001
    (try simp only [hl226001_1])
    (try simp only [hl226001_1] at BK225)
    cases gk with
    | zero => exact absurd HA.out (by simp [tollbarlaw0_SpoilGraph.l0])
    | succ k1 =>
      have H := HA.out
      clear HA
      simp only [tollbarlaw0_SpoilGraph.l0] at H
      by_cases c4 : x2_1 < (x226001_1.length : Int)
      · rw [if_pos c4] at H
        have c4b0 : decide (x2_1 < (x226001_1.length : Int)) = true := decide_eq_true c4
        clear c4
        by_cases c5 : 0 ≤ x2_1
        · rw [if_pos c5] at H
          have c5b0 : decide (0 ≤ x2_1) = true := decide_eq_true c5
          clear c5
          obtain ⟨y226, hy226⟩ : ∃ y_ : List (S60), y_ = (x226001_1.set (x2_1 : Int).toNat (⟨(-3), (-5), (-7)⟩ : S60)) := ⟨_, rfl⟩
          replace H : (tollbarlaw0_SpoilGraph.l0 k1 (wrap64 (x2_1 + 1)) a0_0 y226) = some r := by first | (rw [hy226]; with_reducible exact H) | (have H2_ := (Option.bind_some _ _).symm.trans H; rw [hy226]; with_reducible exact H2_) | (have H2_ := (Option.bind_some _ _).symm.trans H; with_reducible exact H2_) | with_reducible exact H | (rw [hy226]; exact H) | exact H
          have Ny226 := Aside0.mk hy226
          clear hy226
          have H' := Aside0.mk H
          clear H
          have hcz7_0 : wr.cell? ⟨gb225, 0, none⟩ = some (.int .i64 a0_0) := (blk_cell BK225.out 0).trans rfl
          have hcz7_1 : wr.cell? ⟨gb225, 1, none⟩ = some (.slice Ao2 x226001_1.length co2) := (blk_cell BK225.out 1).trans rfl
          have hfz7_0 := blk_frozen BK225.out 0
          have hfz7_1 := blk_frozen BK225.out 1
          have p6 : 0 ≤ (x2_1 : Int) := of_decide_eq_true (by first | (with_reducible assumption) | assumption)
          have q6 : (x2_1 : Int) < ((x226001_1.length : Int) : Int) := of_decide_eq_true (by first | (with_reducible assumption) | assumption)
          obtain ⟨go6, co6, eo6, gb6, gl6, cl6, HG6⟩ := Kd.R_form HO_226001.out (by omega)
          (first | cases eo6 | (injection eo6 with ea_ en_ ec_; (first | subst ea_ | (injection ea_ with ea_; subst ea_)); subst ec_; clear en_))
          have GB6 := Aside0.mk gb6
          have GG6 := Aside0.mk HG6
          clear gb6 gl6 HG6
          have HMgo6 := Aside0.mk (show (P0_1_ go6 ∨ w.heap.size ≤ go6) from (HO_226001.out.1 _ rfl))
          obtain ⟨ce6, hcl6, hM6, hcc6, hfr6⟩ := Kd.R_elem HO_226001.out z60 (x2_1 : Int) p6 q6
          obtain rfl := k60_openM hM6
          have hx6_0 : wr.cell? ⟨go6, (x2_1 : Int).toNat * 3, none⟩ = some (.int .i64 ((rd_T60 x226001_1 x2_1).f0)) := hcc6 0 _ rfl
          have hx6_1 : wr.cell? ⟨go6, (x2_1 : Int).toNat * 3 + 1, none⟩ = some (.int .i64 ((rd_T60 x226001_1 x2_1).f1)) := hcc6 1 _ rfl
          have hx6_2 : wr.cell? ⟨go6, (x2_1 : Int).toNat * 3 + 2, none⟩ = some (.int .i64 ((rd_T60 x226001_1 x2_1).f2)) := hcc6 2 _ rfl
          have hf6_0 : wr.frozen? ⟨go6, (x2_1 : Int).toNat * 3, none⟩ = false := hfr6 0
          have hf6_1 : wr.frozen? ⟨go6, (x2_1 : Int).toNat * 3 + 1, none⟩ = false := hfr6 1
          have hf6_2 : wr.frozen? ⟨go6, (x2_1 : Int).toNat * 3 + 2, none⟩ = false := hfr6 2
          clear hcl6 hcc6 hfr6 hM6
          replace p6 := eq_true p6
          replace q6 := eq_true q6
          have HX8 := Aside0.mk (show Kd.R k60 60 wr w0.heap.size (fun k_ => (P0_1_ k_ ∨ w.heap.size ≤ k_)) (.slice (some ⟨go6, 0, none⟩) x226001_1.length co2) x226001_1 from (by (with_reducible repeat (first | apply Kd.R_alloc | apply Kd.R_drewN | apply Kd.R_drew)); exact HO_226001.out))
          obtain ⟨ce8, hcl8, hM8, hcc8, hfr8⟩ := Kd.R_elem HX8.out z60 (x2_1 : Int) (of_decide_eq_true (by first | (with_reducible assumption) | assumption)) (by have h_ : (x2_1 : Int) < ((x226001_1.length : Int) : Int) := of_decide_eq_true (by first | (with_reducible assumption) | assumption); first | exact h_ | (have e_ := (Kd.R_reads' HO_226001.out).1; omega) | simpa using h_)
          obtain rfl := k60_openM hM8
          have HP8 := Kd.R_seg HX8.out (x2_1 : Int) (of_decide_eq_true (by first | (with_reducible assumption) | assumption)) (by have h_ : (x2_1 : Int) < ((x226001_1.length : Int) : Int) := of_decide_eq_true (by first | (with_reducible assumption) | assumption); first | exact h_ | (have e_ := (Kd.R_reads' HO_226001.out).1; omega) | simpa using h_) (seg := [.int .i64 (-3), .int .i64 (-5), .int .i64 (-7)]) (j := 0) hcl8 hcc8 (show 3 ≤ 3 from by decide) (x' := (⟨(-3), (-5), (-7)⟩ : S60)) (k60_mkM _ _ _ (⟨(-3), (-5), (-7)⟩ : S60) ) (fun _ hk => hk)
          have hx8_0 := hcc8 0 _ rfl
          (try simp only [show (k60).sz = 3 from rfl, Nat.mul_one, Nat.add_zero] at hx8_0)
          have hf8_0 := hfr8 0
          (try simp only [show (k60).sz = 3 from rfl, Nat.mul_one, Nat.add_zero] at hf8_0)
          have hx8_1 := hcc8 1 _ rfl
          (try simp only [show (k60).sz = 3 from rfl, Nat.mul_one, Nat.add_zero] at hx8_1)
          have hf8_1 := hfr8 1
          (try simp only [show (k60).sz = 3 from rfl, Nat.mul_one, Nat.add_zero] at hf8_1)
          have hx8_2 := hcc8 2 _ rfl
          (try simp only [show (k60).sz = 3 from rfl, Nat.mul_one, Nat.add_zero] at hx8_2)
          have hf8_2 := hfr8 2
          (try simp only [show (k60).sz = 3 from rfl, Nat.mul_one, Nat.add_zero] at hf8_2)
          clear hcl8 hcc8 hfr8 hM8
          go_wp2_with (first | ((with_reducible refine gate_store (t := 60) (p := 14) rfl ?_); refine store_event (t := 60) (p := 14) (v := ?vo_w9) (w1 := (((wr.setCell ⟨go6, (x2_1 : Int).toNat * 3, none⟩ (.int .i64 (-3))).setCell ⟨go6, (x2_1 : Int).toNat * 3 + 1, none⟩ (.int .i64 (-5))).setCell ⟨go6, (x2_1 : Int).toNat * 3 + 2, none⟩ (.int .i64 (-7)))) ?hg ?ho ?hn ?hr ?_; (case ho => rfl); (case hg => rfl); (case hn => rfl); (case hr => first | (go_simp; done) | (go_simp; rfl)); intro w9 hw; have hg : wr.grownBy w9 (some go6) := (by rw [hw]; exact HP8.2); have hp_ : Kd.R k60 60 w9 w0.heap.size (fun k_ => (P0_1_ k_ ∨ w.heap.size ≤ k_)) (.slice (some ⟨go6, 0, none⟩) x226001_1.length co2) y226 := (by rw [hw, Ny226.out]; exact HP8.1); clear HP8; have n0_ := Aside0.mk (hp_); have n1_ := Aside0.mk (blk_grown (g := gb225) (o := .cells #[.int .i64 a0_0, .slice (some ⟨go6, 0, none⟩) x226001_1.length co2] 24 (0, 0)) (by (with_reducible repeat (first | refine blk_drewN ?_ _ | refine blk_drew ?_ | refine blk_alloc ?_ _)); exact BK225.out) hg (Kd.R_ne HO_226001.out BK225.out (by decide))); have n2_ := Aside0.mk ((by rw [hw]; exact below_set (below_set (below_set (HB.out) GB6.out) GB6.out) GB6.out : Below w0.heap.size w0 w9)); have n3_ := Aside0.mk (Kept.of_grown (S := (fun k_ => P0_1_ k_)) hg (by repeat (first | (with_reducible first | exact HK.out | apply Kept.alloc | apply Kept.drewN | apply Kept.drew | refine Kept.setCell ?_ (.inr GW225.out) _) | exact HK.out)) (fun k_ e_ => (HO_226001.out.1 k_ e_))); clear HO_226001; clear BK225; clear HB; clear HK; have HO_226001 := n0_; have BK225 := n1_; have HB := n2_; have HK := n3_; clear n0_ n1_ n2_ n3_; clear hg hw hp_))
          (try simp only [← hl226001_1])
          go_roundg k1
          case measure => have := HK1.out; omega
          case rel => exact ⟨(wrap64 (x2_1 + 1)), (y226), (by first | rfl | (simp; done) | (simp [*]; done)), H', ⟨by have := HK1.out; omega⟩, ⟨by (try simp only [hl226001_1]); (with_reducible repeat (first | apply Kd.R_alloc | apply Kd.R_drewN | apply Kd.R_drew)); exact HO_226001.out⟩, ⟨by (try simp only [hl226001_1]); (with_reducible repeat (first | refine blk_drewN ?_ _ | refine blk_drew ?_ | refine blk_alloc ?_ _)); exact BK225.out⟩, ⟨by repeat (first | (with_reducible first | exact HK.out | apply Kept.alloc | apply Kept.drewN | apply Kept.drew | refine Kept.setCell ?_ (.inr GW225.out) _) | exact HK.out)⟩, ⟨by repeat (first | (with_reducible first | exact HB.out | apply below_alloc | apply pw_below_drewN | apply below_drew1 | refine below_set ?_ GE225.out) | exact HB.out)⟩⟩
        · rw [if_neg c5] at H
          exact absurd H (by simp)
      · rw [if_neg c4] at H
        have c4b0 : decide (x2_1 < (x226001_1.length : Int)) = false := decide_eq_false c4
        clear c4
        obtain rfl := Option.some.inj H
        have hcz10_0 : wr.cell? ⟨gb225, 0, none⟩ = some (.int .i64 a0_0) := (blk_cell BK225.out 0).trans rfl
        have hcz10_1 : wr.cell? ⟨gb225, 1, none⟩ = some (.slice Ao2 x226001_1.length co2) := (blk_cell BK225.out 1).trans rfl
        have hfz10_0 := blk_frozen BK225.out 0
        have hfz10_1 := blk_frozen BK225.out 1
        go_wp2
        first | go_end0 | ((try simp only [Exit.inBlock, Exit.then]); refine bodyPost_ret (results_none rfl _ _ _) rfl ?_)
        exact ⟨by first | rfl | (simp [errW_none, errW_some] <;> rfl) | (simp [*, errW_none, errW_some] <;> rfl), (by first | exact (by (with_reducible repeat (first | apply Kd.R_alloc | apply Kd.R_drewN | apply Kd.R_drew)); exact HO_226001.out) | (simp only [hl226001_1]; exact (by (with_reducible repeat (first | apply Kd.R_alloc | apply Kd.R_drewN | apply Kd.R_drew)); exact HO_226001.out))), by repeat (first | (with_reducible first | exact HB.out | apply below_alloc | apply pw_below_drewN | apply below_drew1 | refine below_set ?_ GE225.out) | exact HB.out), by repeat (first | (with_reducible first | exact HK.out | apply Kept.alloc | apply Kept.drewN | apply Kept.drew | refine Kept.setCell ?_ (.inr GW225.out) _) | exact HK.out)⟩

-- NOT PRINTED: function 4 (tollbarlaw24_TopoReads)

-- NOT PRINTED: function 5 (tollbarlaw24_TopoBack)

-- NOT PRINTED: function 6 (tollbarlaw24_TopoForms)

-- NOT PRINTED: function 7 (tollbarlaw24_TopoApart)

end Go.Proofs.Yteikgpdjfhdneaa.QA
