/- span.Has, Both, Meets; the comparison of spans; an error's number: what they answer, and that the calls answer so. -/
import Derived.Test.YtbacdpagpdmkoaaSpanC
set_option linter.unusedVariables false
namespace Go.Proofs.Ytbacdpagpdmkoaa.Man
open Go.RowKit Go.Proofs.Ytbacdpagpdmkoaa.QT Go.Proofs.YtbacdpagpdmkoaaW.PrintWords Go.Proofs.YtbacdpagpdmkoaaW.PrintLast Go.Proofs.YtbacdpagpdmkoaaW.PrintMore
theorem max2_mx (k k' : IntKind) (x y : Int) : Builtin.max2 (.int k x) (.int k' y) = pure (.int k (mx x y)) := max2_int k k' x y
theorem min2_mn (k k' : IntKind) (x y : Int) : Builtin.min2 (.int k x) (.int k' y) = pure (.int k (mn x y)) := min2_int k k' x y
attribute [local go_sem] max2_mx min2_mn max_two min_two
attribute [local go_sem high] eqA23

theorem bcell {W w1 : World} (hb : Below W.heap.size W w1) : (∀ b o, b < W.heap.size → w1.cell? ⟨b, o, none⟩ = W.cell? ⟨b, o, none⟩) ∧ (∀ b o, b < W.heap.size → w1.frozen? ⟨b, o, none⟩ = W.frozen? ⟨b, o, none⟩) :=
  ⟨fun b o h => hb.cell (p := ⟨b, o, none⟩) h, fun b o h => hb.frozen (p := ⟨b, o, none⟩) h⟩
theorem belowW {B : Nat} {w W w1 : World} (h : Below B w W) (hb : Below W.heap.size W w1) (hB : B ≤ W.heap.size) : Below B w w1 := below_then h hB hb

def hasF (a b t : Int) : Bool := mayF a b && decide (a ≤ t) && decide (t < b)
def span_Has.f (a b t : Int) : Option Bool := some (hasF a b t)
set_option maxHeartbeats 4000000 in
set_option maxRecDepth 100000 in
theorem has_is (a b t : Int) (w : World) : Calls Try.prog 19 #[.agg #[.int .i64 a, .int .i64 b], .int .i64 t] w fun e w' => e = .returned (.bool (hasF a b t)) ∧ Below w.heap.size w w' := by
  unfold hasF
  cases hm : mayF a b
  · have HM := Lib.hid hm
    clear hm
    go_enter Try.func19, Try.ntmps19
    go_wp2_with fail
    refine (may_is a b _).mono ?_
    rintro e w1 ⟨rfl, hb⟩
    obtain ⟨hc, hf⟩ := bcell hb
    rw [HM.out]
    have HB := Lib.hid (belowW ((Below.refl w.heap.size w).alloc (Nat.le_refl _) _) hb (by simp))
    clear hb
    go_wp2
    go_ret
    exact ⟨rfl, HB.out⟩
  have HM := Lib.hid hm
  clear hm
  cases h0 : decide (a ≤ t)
  all_goals
    go_enter Try.func19, Try.ntmps19
    go_wp2_with fail
    refine (may_is a b _).mono ?_
    rintro e w1 ⟨rfl, hb⟩
    obtain ⟨hc, hf⟩ := bcell hb
    rw [HM.out]
    have HB := Lib.hid (belowW ((Below.refl w.heap.size w).alloc (Nat.le_refl _) _) hb (by simp))
    clear hb
    go_wp2
    go_ret
    exact ⟨by first | rfl | simp, HB.out⟩
theorem span_Has.calls (a0_0 : Int) (a0_1 : Int) (a1 : Int) (r : Bool) (w : World) (h : span_Has.f a0_0 a0_1 a1 = some r) :
    Calls Try.prog 19 #[.agg #[.int .i64 a0_0, .int .i64 a0_1], .int .i64 a1] w fun e w' => e = .returned (.bool r) ∧ Below w.heap.size w w' := by
  cases h
  exact has_is a0_0 a0_1 a1 w

def bothF (a b c d : Int) : Int × Int × Bool := if mayF a b = true then if mayF c d = true then if mayF (mx a c) (mn b d) = true then (mx a c, mn b d, true) else (0, 0, false) else (0, 0, false) else (0, 0, false)
def span_Both.f (a b c d : Int) : Option (Int × Int × Bool) := some (bothF a b c d)
set_option maxHeartbeats 8000000 in
set_option maxRecDepth 100000 in
theorem both_is (a b c d : Int) (w : World) : Calls Try.prog 13 #[.agg #[.int .i64 a, .int .i64 b], .agg #[.int .i64 c, .int .i64 d]] w fun e w' => e = .returned (.tuple #[.agg #[.int .i64 (bothF a b c d).1, .int .i64 (bothF a b c d).2.1], .bool (bothF a b c d).2.2]) ∧ Below w.heap.size w w' := by
  have HN : Hid (∀ w1, Below ((((w.alloc (.cells #[.int .i64 a, .int .i64 b] 23)).alloc (.cells #[.int .i64 c, .int .i64 d] 23)).alloc (.cells #[.int .i64 0, .int .i64 0] 23)).alloc (.cells #[.int .i64 (mx a c), .int .i64 (mn b d)] 23)).heap.size ((((w.alloc (.cells #[.int .i64 a, .int .i64 b] 23)).alloc (.cells #[.int .i64 c, .int .i64 d] 23)).alloc (.cells #[.int .i64 0, .int .i64 0] 23)).alloc (.cells #[.int .i64 (mx a c), .int .i64 (mn b d)] 23)) w1 → w1.heap[w.heap.size + 1 + 1]? = some (.cells #[.int .i64 0, .int .i64 0] 23 (0, 0)) ∧ Below w.heap.size w w1) := by
    refine Lib.hid fun w1 hb => ⟨?_, belowW (((((Below.refl w.heap.size w).alloc (Nat.le_refl _) _).alloc (by simp) _).alloc (by simp; omega) _).alloc (by simp; omega) _) hb (by simp; omega)⟩
    have := blk_below (blk_alloc (blk_new ((w.alloc (.cells #[.int .i64 a, .int .i64 b] 23)).alloc (.cells #[.int .i64 c, .int .i64 d] 23)) (.cells #[.int .i64 0, .int .i64 0] 23 (0, 0))) _) hb
    simpa using this
  cases h1 : mayF a b
  · have H1 := Lib.hid h1
    have HF : Hid (bothF a b c d = (0, 0, false)) := Lib.hid (by unfold bothF; rw [if_neg (by rw [h1]; decide)])
    rw [HF.out]
    clear h1
    go_enter Try.func13, Try.ntmps13
    go_wp2_with fail
    refine (may_is a b _).mono ?_
    rintro e w1 ⟨rfl, hb⟩
    obtain ⟨hc1, hf1⟩ := bcell hb
    have BB1 := Lib.hid hb
    rw [H1.out]
    clear hb
    have HBK := Lib.hid (HN.out _ BB1.out).1
    have HB := Lib.hid (HN.out _ BB1.out).2
    go_wp2
    have hb2 := blk_set (blk_set HBK.out 0 (.int .i64 0)) 1 (.int .i64 0)
    have q0 := blk_cell hb2 0
    have q1 := blk_cell hb2 1
    have q2 := blk_cell (blk_set HBK.out 0 (.int .i64 0)) 0
    simp at q0 q1 q2
    exact bodyPost_ret (v := .tuple #[.agg #[.int .i64 0, .int .i64 0], .bool false]) (by simp [results, Try.results13, go_sem, q1, q2]) rfl ⟨rfl, (HB.out.setCell (p := ⟨w.heap.size + 1 + 1, 0, none⟩) (by show w.heap.size ≤ w.heap.size + 1 + 1; omega) _).setCell (p := ⟨w.heap.size + 1 + 1, 1, none⟩) (by show w.heap.size ≤ w.heap.size + 1 + 1; omega) _⟩
  cases h2 : mayF c d
  · have H1 := Lib.hid h1
    have H2 := Lib.hid h2
    have HF : Hid (bothF a b c d = (0, 0, false)) := Lib.hid (by unfold bothF; rw [if_pos h1, if_neg (by rw [h2]; decide)])
    rw [HF.out]
    clear h1 h2
    go_enter Try.func13, Try.ntmps13
    go_wp2_with fail
    refine (may_is a b _).mono ?_
    rintro e w1 ⟨rfl, hb⟩
    obtain ⟨hc1, hf1⟩ := bcell hb
    have BB1 := Lib.hid hb
    rw [H1.out]
    clear hb
    go_wp2_with fail
    refine (may_is c d _).mono ?_
    rintro e w2 ⟨rfl, hb⟩
    have BB2 := Lib.hid (belowW BB1.out hb (by have := BB1.out.size; simpa using this))
    obtain ⟨hc2, hf2⟩ := bcell BB2.out
    clear hc1 hf1
    rw [H2.out]
    clear hb
    have HBK := Lib.hid (HN.out _ BB2.out).1
    have HB := Lib.hid (HN.out _ BB2.out).2
    go_wp2
    have hb2 := blk_set (blk_set HBK.out 0 (.int .i64 0)) 1 (.int .i64 0)
    have q0 := blk_cell hb2 0
    have q1 := blk_cell hb2 1
    have q2 := blk_cell (blk_set HBK.out 0 (.int .i64 0)) 0
    simp at q0 q1 q2
    exact bodyPost_ret (v := .tuple #[.agg #[.int .i64 0, .int .i64 0], .bool false]) (by simp [results, Try.results13, go_sem, q1, q2]) rfl ⟨rfl, (HB.out.setCell (p := ⟨w.heap.size + 1 + 1, 0, none⟩) (by show w.heap.size ≤ w.heap.size + 1 + 1; omega) _).setCell (p := ⟨w.heap.size + 1 + 1, 1, none⟩) (by show w.heap.size ≤ w.heap.size + 1 + 1; omega) _⟩
  cases h3 : mayF (mx a c) (mn b d)
  · have H1 := Lib.hid h1
    have H2 := Lib.hid h2
    have H3 := Lib.hid h3
    have HF : Hid (bothF a b c d = (0, 0, false)) := Lib.hid (by unfold bothF; rw [if_pos h1, if_pos h2, if_neg (by rw [h3]; decide)])
    rw [HF.out]
    clear h1 h2 h3
    go_enter Try.func13, Try.ntmps13
    go_wp2_with fail
    refine (may_is a b _).mono ?_
    rintro e w1 ⟨rfl, hb⟩
    obtain ⟨hc1, hf1⟩ := bcell hb
    have BB1 := Lib.hid hb
    rw [H1.out]
    clear hb
    go_wp2_with fail
    refine (may_is c d _).mono ?_
    rintro e w2 ⟨rfl, hb⟩
    have BB2 := Lib.hid (belowW BB1.out hb (by have := BB1.out.size; simpa using this))
    obtain ⟨hc2, hf2⟩ := bcell BB2.out
    clear hc1 hf1
    rw [H2.out]
    clear hb
    go_wp2_with fail
    refine (may_is _ _ _).mono ?_
    rintro e w3 ⟨rfl, hb⟩
    have BB3 := Lib.hid (belowW BB2.out hb (by have := BB2.out.size; simpa using this))
    obtain ⟨hc3, hf3⟩ := bcell BB3.out
    clear hc2 hf2
    rw [H3.out]
    clear hb
    have HBK := Lib.hid (HN.out _ BB3.out).1
    have HB := Lib.hid (HN.out _ BB3.out).2
    go_wp2
    have hb2 := blk_set (blk_set HBK.out 0 (.int .i64 0)) 1 (.int .i64 0)
    have q0 := blk_cell hb2 0
    have q1 := blk_cell hb2 1
    have q2 := blk_cell (blk_set HBK.out 0 (.int .i64 0)) 0
    simp at q0 q1 q2
    exact bodyPost_ret (v := .tuple #[.agg #[.int .i64 0, .int .i64 0], .bool false]) (by simp [results, Try.results13, go_sem, q1, q2]) rfl ⟨rfl, (HB.out.setCell (p := ⟨w.heap.size + 1 + 1, 0, none⟩) (by show w.heap.size ≤ w.heap.size + 1 + 1; omega) _).setCell (p := ⟨w.heap.size + 1 + 1, 1, none⟩) (by show w.heap.size ≤ w.heap.size + 1 + 1; omega) _⟩
  · have H1 := Lib.hid h1
    have H2 := Lib.hid h2
    have H3 := Lib.hid h3
    have HF : Hid (bothF a b c d = (mx a c, mn b d, true)) := Lib.hid (by unfold bothF; rw [if_pos h1, if_pos h2, if_pos h3])
    rw [HF.out]
    clear h1 h2 h3
    go_enter Try.func13, Try.ntmps13
    go_wp2_with fail
    refine (may_is a b _).mono ?_
    rintro e w1 ⟨rfl, hb⟩
    obtain ⟨hc1, hf1⟩ := bcell hb
    have BB1 := Lib.hid hb
    rw [H1.out]
    clear hb
    go_wp2_with fail
    refine (may_is c d _).mono ?_
    rintro e w2 ⟨rfl, hb⟩
    have BB2 := Lib.hid (belowW BB1.out hb (by have := BB1.out.size; simpa using this))
    obtain ⟨hc2, hf2⟩ := bcell BB2.out
    clear hc1 hf1
    rw [H2.out]
    clear hb
    go_wp2_with fail
    refine (may_is _ _ _).mono ?_
    rintro e w3 ⟨rfl, hb⟩
    have BB3 := Lib.hid (belowW BB2.out hb (by have := BB2.out.size; simpa using this))
    obtain ⟨hc3, hf3⟩ := bcell BB3.out
    clear hc2 hf2
    rw [H3.out]
    clear hb
    have HBK := Lib.hid (HN.out _ BB3.out).1
    have HB := Lib.hid (HN.out _ BB3.out).2
    go_wp2
    have hb2 := blk_set (blk_set HBK.out 0 (.int .i64 (mx a c))) 1 (.int .i64 (mn b d))
    have q0 := blk_cell hb2 0
    have q1 := blk_cell hb2 1
    have q2 := blk_cell (blk_set HBK.out 0 (.int .i64 (mx a c))) 0
    simp at q0 q1 q2
    exact bodyPost_ret (v := .tuple #[.agg #[.int .i64 (mx a c), .int .i64 (mn b d)], .bool true]) (by simp [results, Try.results13, go_sem, q1, q2]) rfl ⟨rfl, (HB.out.setCell (p := ⟨w.heap.size + 1 + 1, 0, none⟩) (by show w.heap.size ≤ w.heap.size + 1 + 1; omega) _).setCell (p := ⟨w.heap.size + 1 + 1, 1, none⟩) (by show w.heap.size ≤ w.heap.size + 1 + 1; omega) _⟩
theorem span_Both.calls (a0_0 : Int) (a0_1 : Int) (a1_0 : Int) (a1_1 : Int) (r1 : Int) (r2 : Int) (r3 : Bool) (w : World) (h : span_Both.f a0_0 a0_1 a1_0 a1_1 = some (r1, r2, r3)) :
    Calls Try.prog 13 #[.agg #[.int .i64 a0_0, .int .i64 a0_1], .agg #[.int .i64 a1_0, .int .i64 a1_1]] w fun e w' => e = .returned (.tuple #[.agg #[.int .i64 r1, .int .i64 r2], .bool r3]) ∧ Below w.heap.size w w' := by
  have := both_is a0_0 a0_1 a1_0 a1_1 w
  rw [Option.some.inj h] at this
  exact this
def span_Meets.f (a b c d : Int) : Option Bool := some (bothF a b c d).2.2
set_option maxHeartbeats 8000000 in
set_option maxRecDepth 100000 in
theorem meets_is (a b c d : Int) (w : World) : Calls Try.prog 16 #[.agg #[.int .i64 a, .int .i64 b], .agg #[.int .i64 c, .int .i64 d]] w fun e w' => e = .returned (.bool (bothF a b c d).2.2) ∧ Below w.heap.size w w' := by
  obtain ⟨p, hp⟩ : ∃ p, bothF a b c d = p := ⟨_, rfl⟩
  have HP := Lib.hid hp
  rw [hp]
  clear hp
  go_enter Try.func16, Try.ntmps16
  go_wp2_with fail
  refine (both_is a b c d _).mono ?_
  rintro e w1 ⟨rfl, hb⟩
  rw [HP.out]
  have HB := Lib.hid (belowW (((Below.refl w.heap.size w).alloc (Nat.le_refl _) _).alloc (by simp) _) hb (by simp; omega))
  clear hb
  go_wp2
  go_ret
  exact ⟨rfl, HB.out.alloc HB.out.size _⟩
theorem span_Meets.calls (a0_0 : Int) (a0_1 : Int) (a1_0 : Int) (a1_1 : Int) (r : Bool) (w : World) (h : span_Meets.f a0_0 a0_1 a1_0 a1_1 = some r) :
    Calls Try.prog 16 #[.agg #[.int .i64 a0_0, .int .i64 a0_1], .agg #[.int .i64 a1_0, .int .i64 a1_1]] w fun e w' => e = .returned (.bool r) ∧ Below w.heap.size w w' := by
  cases h
  exact meets_is a0_0 a0_1 a1_0 a1_1 w

def tollbarlaw0_Num.f (a0 : Int) : Option Int := some a0
theorem num_is (n : Int) (w : World) : Calls Try.prog 24 #[.int .i64 n] w fun e w' => e = .returned (.int .i64 n) ∧ w = w' := by
  go_enter Try.func24, Try.ntmps24
  go_wp2
  go_ret
  exact ⟨rfl, rfl⟩
theorem tollbarlaw0_Num.calls (a0 : Int) (r : Int) (w : World) (h : tollbarlaw0_Num.f a0 = some r) :
    Calls Try.prog 24 #[.int .i64 a0] w fun e w' => e = .returned (.int .i64 r) ∧ Drawn0 w w' := by
  cases h
  exact (num_is a0 w).mono fun e w' ⟨h1, h2⟩ => ⟨h1, h2 ▸ Drawn0.refl w⟩

instance : DecidableEq S23 := fun x y => by
  cases x
  cases y
  rw [S23.mk.injEq]
  exact inferInstance
theorem span_eq (x y : S23) : (x.f0 == y.f0 && x.f1 == y.f1) = decide (x = y) := by
  cases x
  cases y
  rw [Bool.eq_iff_iff]
  simp
def tollbarlaw0_SameSpans.f (l0 l1 : List S23) : Option Bool := if l0.length ≤ 281474976710656 then some (decide (l0 = l1)) else none
def SameTo (xs ys : List S23) (w : World) (i : Value) (w' : World) : Prop := ∃ k : Nat, i = .int .i64 (k : Int) ∧ k ≤ xs.length ∧ xs.take k = ys.take k ∧ Drawn0 w w'
set_option maxHeartbeats 8000000 in
set_option maxRecDepth 100000 in
theorem same_spans (A0 : Option Addr) (c0 : Nat) (l0 : List S23) (A1 : Option Addr) (c1 : Nat) (l1 : List S23) (w : World) (hr0 : Kd.C k23 w A0 l0.length l0) (hc0 : l0.length ≤ c0) (hr1 : Kd.C k23 w A1 l1.length l1) (hc1 : l1.length ≤ c1) (hl : l0.length ≤ 281474976710656) :
    Calls Try.prog 25 #[.slice A0 l0.length c0, .slice A1 l1.length c1] w fun e w' => e = .returned (.bool (decide (l0 = l1))) ∧ Drawn0 w w' := by
  have H0 := Lib.hid hr0
  have H1 := Lib.hid hr1
  clear hr0 hr1
  by_cases hn : l0.length = l1.length
  case neg =>
    have hne : l0 ≠ l1 := fun e => hn (by rw [e])
    rw [decide_eq_false hne]
    have hd : ((l0.length : Int) != (l1.length : Int)) = true := by simp; omega
    clear hne hn
    go_enter Try.func25, Try.ntmps25
    go_wp2
    go_ret
    exact ⟨rfl, Drawn0.refl w⟩
  have hd : ((l0.length : Int) != (l1.length : Int)) = false := by simp; omega
  have hle : l0.length ≤ l1.length := by omega
  have HN := Lib.hid hn
  clear hn
  obtain ⟨r, hr⟩ : ∃ r, decide (l0 = l1) = r := ⟨_, rfl⟩
  have HRR := Lib.hid hr
  rw [hr]
  clear hr
  go_enter Try.func25, Try.ntmps25
  go_wp2_with fail
  go_loopw [5] (SameTo l0 l1 w) (fun i _ => l0.length - (intOf i).toNat)
  case atStart => exact ⟨0, rfl, Nat.zero_le _, rfl, Drawn0.refl w⟩
  case round =>
    obtain ⟨k, rfl, hk, hs, nd, rfl⟩ := hrel
    have HS := Lib.hid hs
    clear hs
    by_cases hlt : k < l0.length
    · obtain ⟨ad, rfl, x0, x1⟩ := at_T23 H0.out (k : Int) (by omega) (by omega)
      obtain ⟨ad', rfl, y0, y1⟩ := at_T23 H1.out (k : Int) (by omega) (by omega)
      have hlt1 : k < l1.length := by omega
      rw [rdT_at l0 k hlt, Int.toNat_natCast] at x0 x1
      rw [rdT_at l1 k hlt1, Int.toNat_natCast] at y0 y1
      have HT : Hid (l0.take (k + 1) = l0.take k ++ [l0[k]] ∧ l1.take (k + 1) = l1.take k ++ [l1[k]]) := Lib.hid ⟨List.take_succ_eq_append_getElem hlt, List.take_succ_eq_append_getElem hlt1⟩
      generalize hx : l0[k] = x at *
      generalize hy : l1[k] = y at *
      have HX := Lib.hid hx
      have HY := Lib.hid hy
      clear hx hy
      have hdk : decide ((k : Int) < (l0.length : Int)) = true := by simpa using hlt
      by_cases he : x = y
      · subst he
        go_wp2_with fail
        go_quiet (fail)
        go_wp2
        go_roundw
        case rel => exact ⟨k + 1, by go_num, by omega, by rw [HT.out.1, HT.out.2, HS.out], by repeat (first | exact Drawn0.refl _ | apply Drawn0.step)⟩
        case measure => simp [intOf]; omega
      · have hq : (x.f0 == y.f0 && x.f1 == y.f1) = false := by rw [span_eq]; exact decide_eq_false he
        have HF : Hid (r = false) := Lib.hid (by
          rw [← HRR.out]
          refine decide_eq_false fun e => he ?_
          subst e
          rw [← HX.out, ← HY.out])
        go_wp2_with fail
        go_quiet (fail)
        go_wp2
        go_ret
        rw [HF.out]
        exact ⟨rfl, by repeat (first | exact Drawn0.refl _ | apply Drawn0.step)⟩
    · have hdk : decide ((k : Int) < (l0.length : Int)) = false := by simpa using hlt
      have HF : Hid (r = true) := Lib.hid (by
        rw [← HRR.out]
        refine decide_eq_true ?_
        have := HS.out
        rwa [List.take_of_length_le (by omega), List.take_of_length_le (by have := HN.out; omega)] at this)
      go_wp2
      go_ret
      rw [HF.out]
      exact ⟨rfl, by repeat (first | exact Drawn0.refl _ | apply Drawn0.step)⟩
theorem tollbarlaw0_SameSpans.calls (A0 : Option Addr) (c0 : Nat) (l0 : List S23) (A1 : Option Addr) (c1 : Nat) (l1 : List S23) (r : Bool) (w : World) (hr0 : Kd.C k23 w A0 l0.length l0) (hc0 : l0.length ≤ c0) (hr1 : Kd.C k23 w A1 l1.length l1) (hc1 : l1.length ≤ c1) (h : tollbarlaw0_SameSpans.f l0 l1 = some r) :
    Calls Try.prog 25 #[.slice A0 l0.length c0, .slice A1 l1.length c1] w fun e w' => e = .returned (.bool r) ∧ Drawn0 w w' := by
  unfold tollbarlaw0_SameSpans.f at h
  by_cases hl : l0.length ≤ 281474976710656
  · rw [if_pos hl] at h
    rw [← Option.some.inj h]
    exact same_spans A0 c0 l0 A1 c1 l1 w hr0 hc0 hr1 hc1 hl
  · rw [if_neg hl] at h
    cases h
end Go.Proofs.Ytbacdpagpdmkoaa.Man
