/- The document's Both: it answers as the program's. -/
import Derived.Test.YtbacdpagpdmkoaaSpanB
set_option linter.unusedVariables false
namespace Go.Proofs.Ytbacdpagpdmkoaa.Man
open Go.RowKit Go.Proofs.Ytbacdpagpdmkoaa.QT Go.Proofs.YtbacdpagpdmkoaaW.PrintWords Go.Proofs.YtbacdpagpdmkoaaW.PrintLast Go.Proofs.YtbacdpagpdmkoaaW.PrintMore

set_option maxHeartbeats 4000000 in
set_option maxRecDepth 100000 in
theorem ref_may (a b : Int) (w : World) : Calls Try.prog 18 #[.agg #[.int .i64 a, .int .i64 b]] w fun e w' => e = .returned (.bool (mayF a b)) ∧ Below w.heap.size w w' := by
  unfold mayF
  cases h0 : decide (0 ≤ a)
  · go_enter Try.func18, Try.ntmps18
    go_wp2
    go_ret
    exact ⟨rfl, (Below.refl _ _).alloc (Nat.le_refl _) _⟩
  cases h1 : decide (a < b)
  all_goals
    go_enter Try.func18, Try.ntmps18
    go_wp2
    go_ret
    exact ⟨by first | rfl | simp, (Below.refl _ _).alloc (Nat.le_refl _) _⟩

/-- As the document has it. -/
theorem bothF_ref (a b c d : Int) : bothF a b c d = if mayF a b = true then if mayF c d = true then if a ≥ d then (0, 0, false) else if c ≥ b then (0, 0, false) else (if c > a then c else a, if d < b then d else b, true) else (0, 0, false) else (0, 0, false) := by
  unfold bothF
  cases h1 : mayF a b
  · rfl
  cases h2 : mayF c d
  · rfl
  rw [if_pos rfl, if_pos rfl, if_pos rfl, if_pos rfl]
  rw [mayF_true] at h1 h2
  by_cases h3 : a ≥ d
  · rw [if_pos h3, if_neg (by rw [mayF_true]; unfold mx mn; split <;> split <;> omega)]
  rw [if_neg h3]
  by_cases h4 : c ≥ b
  · rw [if_pos h4, if_neg (by rw [mayF_true]; unfold mx mn; split <;> split <;> omega)]
  rw [if_neg h4, if_pos (by rw [mayF_true]; unfold mx mn; split <;> split <;> omega)]
  rfl

set_option maxHeartbeats 8000000 in
set_option maxRecDepth 100000 in
theorem ref_both (a b c d : Int) (w : World) : Calls Try.prog 14 #[.agg #[.int .i64 a, .int .i64 b], .agg #[.int .i64 c, .int .i64 d]] w fun e w' => e = .returned (.tuple #[.agg #[.int .i64 (bothF a b c d).1, .int .i64 (bothF a b c d).2.1], .bool (bothF a b c d).2.2]) ∧ Below w.heap.size w w' := by
  have HN : Hid (∀ w1, Below (((w.alloc (.cells #[.int .i64 a, .int .i64 b] 23)).alloc (.cells #[.int .i64 c, .int .i64 d] 23)).alloc (.cells #[.int .i64 0, .int .i64 0] 23)).heap.size (((w.alloc (.cells #[.int .i64 a, .int .i64 b] 23)).alloc (.cells #[.int .i64 c, .int .i64 d] 23)).alloc (.cells #[.int .i64 0, .int .i64 0] 23)) w1 → w1.heap[w.heap.size + 1 + 1]? = some (.cells #[.int .i64 0, .int .i64 0] 23 (0, 0)) ∧ Below w.heap.size w w1) := by
    refine Lib.hid fun w1 hb => ⟨?_, belowW ((((Below.refl w.heap.size w).alloc (Nat.le_refl _) _).alloc (by simp) _).alloc (by simp; omega) _) hb (by simp; omega)⟩
    have := blk_below (blk_new ((w.alloc (.cells #[.int .i64 a, .int .i64 b] 23)).alloc (.cells #[.int .i64 c, .int .i64 d] 23)) (.cells #[.int .i64 0, .int .i64 0] 23 (0, 0))) hb
    simpa using this
  cases h1 : mayF a b
  · have H1 := Lib.hid h1
    have HF : Hid (bothF a b c d = (0, 0, false)) := Lib.hid (by rw [bothF_ref, if_neg (by rw [h1]; decide)])
    rw [HF.out]
    clear h1
    go_enter Try.func14, Try.ntmps14
    go_wp2_with fail
    refine (ref_may a b _).mono ?_
    rintro e w1 ⟨rfl, hb⟩
    obtain ⟨hc1, hf1⟩ := bcell hb
    have BB1 := Lib.hid hb
    rw [H1.out]
    clear hb
    have HBK := Lib.hid (HN.out _ BB1.out).1
    have HB := Lib.hid (HN.out _ BB1.out).2
    have hlt := blk_lt HBK.out
    have hlt0 : w.heap.size < w1.heap.size := by omega
    have hlt1 : w.heap.size + 1 < w1.heap.size := by omega
    go_wp2
    have hb2 := blk_set (blk_set HBK.out 0 (.int .i64 0)) 1 (.int .i64 0)
    have q1 := blk_cell hb2 1
    have q2 := blk_cell (blk_set HBK.out 0 (.int .i64 0)) 0
    simp at q1 q2
    exact bodyPost_ret (v := .tuple #[.agg #[.int .i64 0, .int .i64 0], .bool false]) (by simp [results, Try.results14, go_sem, q1, q2]) rfl ⟨rfl, ((HB.out.setCell (p := ⟨w.heap.size + 1 + 1, 0, none⟩) (by show w.heap.size ≤ w.heap.size + 1 + 1; omega) _).setCell (p := ⟨w.heap.size + 1 + 1, 1, none⟩) (by show w.heap.size ≤ w.heap.size + 1 + 1; omega) _)⟩
  cases h2 : mayF c d
  · have H1 := Lib.hid h1
    have H2 := Lib.hid h2
    have HF : Hid (bothF a b c d = (0, 0, false)) := Lib.hid (by rw [bothF_ref, if_pos h1, if_neg (by rw [h2]; decide)])
    rw [HF.out]
    clear h1 h2
    go_enter Try.func14, Try.ntmps14
    go_wp2_with fail
    refine (ref_may a b _).mono ?_
    rintro e w1 ⟨rfl, hb⟩
    obtain ⟨hc1, hf1⟩ := bcell hb
    have BB1 := Lib.hid hb
    rw [H1.out]
    clear hb
    go_wp2_with fail
    refine (ref_may c d _).mono ?_
    rintro e w2 ⟨rfl, hb⟩
    have BB2 := Lib.hid (belowW BB1.out hb (by have := BB1.out.size; simpa using this))
    obtain ⟨hc2, hf2⟩ := bcell BB2.out
    clear hc1 hf1
    rw [H2.out]
    clear hb
    have HBK := Lib.hid (HN.out _ BB2.out).1
    have HB := Lib.hid (HN.out _ BB2.out).2
    have hlt := blk_lt HBK.out
    have hlt0 : w.heap.size < w2.heap.size := by omega
    have hlt1 : w.heap.size + 1 < w2.heap.size := by omega
    go_wp2
    have hb2 := blk_set (blk_set HBK.out 0 (.int .i64 0)) 1 (.int .i64 0)
    have q1 := blk_cell hb2 1
    have q2 := blk_cell (blk_set HBK.out 0 (.int .i64 0)) 0
    simp at q1 q2
    exact bodyPost_ret (v := .tuple #[.agg #[.int .i64 0, .int .i64 0], .bool false]) (by simp [results, Try.results14, go_sem, q1, q2]) rfl ⟨rfl, ((HB.out.setCell (p := ⟨w.heap.size + 1 + 1, 0, none⟩) (by show w.heap.size ≤ w.heap.size + 1 + 1; omega) _).setCell (p := ⟨w.heap.size + 1 + 1, 1, none⟩) (by show w.heap.size ≤ w.heap.size + 1 + 1; omega) _)⟩
  by_cases h3 : a ≥ d
  · have hd3 : decide (a ≥ d) = true := by simpa using h3
    have H1 := Lib.hid h1
    have H2 := Lib.hid h2
    have HF : Hid (bothF a b c d = (0, 0, false)) := Lib.hid (by rw [bothF_ref, if_pos h1, if_pos h2, if_pos h3])
    rw [HF.out]
    clear h1 h2 h3
    go_enter Try.func14, Try.ntmps14
    go_wp2_with fail
    refine (ref_may a b _).mono ?_
    rintro e w1 ⟨rfl, hb⟩
    obtain ⟨hc1, hf1⟩ := bcell hb
    have BB1 := Lib.hid hb
    rw [H1.out]
    clear hb
    go_wp2_with fail
    refine (ref_may c d _).mono ?_
    rintro e w2 ⟨rfl, hb⟩
    have BB2 := Lib.hid (belowW BB1.out hb (by have := BB1.out.size; simpa using this))
    obtain ⟨hc2, hf2⟩ := bcell BB2.out
    clear hc1 hf1
    rw [H2.out]
    clear hb
    have HBK := Lib.hid (HN.out _ BB2.out).1
    have HB := Lib.hid (HN.out _ BB2.out).2
    have hlt := blk_lt HBK.out
    have hlt0 : w.heap.size < w2.heap.size := by omega
    have hlt1 : w.heap.size + 1 < w2.heap.size := by omega
    go_wp2
    have hb2 := blk_set (blk_set HBK.out 0 (.int .i64 0)) 1 (.int .i64 0)
    have q1 := blk_cell hb2 1
    have q2 := blk_cell (blk_set HBK.out 0 (.int .i64 0)) 0
    simp at q1 q2
    exact bodyPost_ret (v := .tuple #[.agg #[.int .i64 0, .int .i64 0], .bool false]) (by simp [results, Try.results14, go_sem, q1, q2]) rfl ⟨rfl, ((HB.out.setCell (p := ⟨w.heap.size + 1 + 1, 0, none⟩) (by show w.heap.size ≤ w.heap.size + 1 + 1; omega) _).setCell (p := ⟨w.heap.size + 1 + 1, 1, none⟩) (by show w.heap.size ≤ w.heap.size + 1 + 1; omega) _)⟩
  have hd3 : decide (a ≥ d) = false := by simpa using h3
  by_cases h4 : c ≥ b
  · have hd4 : decide (c ≥ b) = true := by simpa using h4
    have H1 := Lib.hid h1
    have H2 := Lib.hid h2
    have HF : Hid (bothF a b c d = (0, 0, false)) := Lib.hid (by rw [bothF_ref, if_pos h1, if_pos h2, if_neg h3, if_pos h4])
    rw [HF.out]
    clear h1 h2 h3 h4
    go_enter Try.func14, Try.ntmps14
    go_wp2_with fail
    refine (ref_may a b _).mono ?_
    rintro e w1 ⟨rfl, hb⟩
    obtain ⟨hc1, hf1⟩ := bcell hb
    have BB1 := Lib.hid hb
    rw [H1.out]
    clear hb
    go_wp2_with fail
    refine (ref_may c d _).mono ?_
    rintro e w2 ⟨rfl, hb⟩
    have BB2 := Lib.hid (belowW BB1.out hb (by have := BB1.out.size; simpa using this))
    obtain ⟨hc2, hf2⟩ := bcell BB2.out
    clear hc1 hf1
    rw [H2.out]
    clear hb
    have HBK := Lib.hid (HN.out _ BB2.out).1
    have HB := Lib.hid (HN.out _ BB2.out).2
    have hlt := blk_lt HBK.out
    have hlt0 : w.heap.size < w2.heap.size := by omega
    have hlt1 : w.heap.size + 1 < w2.heap.size := by omega
    go_wp2
    have hb2 := blk_set (blk_set HBK.out 0 (.int .i64 0)) 1 (.int .i64 0)
    have q1 := blk_cell hb2 1
    have q2 := blk_cell (blk_set HBK.out 0 (.int .i64 0)) 0
    simp at q1 q2
    exact bodyPost_ret (v := .tuple #[.agg #[.int .i64 0, .int .i64 0], .bool false]) (by simp [results, Try.results14, go_sem, q1, q2]) rfl ⟨rfl, ((HB.out.setCell (p := ⟨w.heap.size + 1 + 1, 0, none⟩) (by show w.heap.size ≤ w.heap.size + 1 + 1; omega) _).setCell (p := ⟨w.heap.size + 1 + 1, 1, none⟩) (by show w.heap.size ≤ w.heap.size + 1 + 1; omega) _)⟩
  have hd4 : decide (c ≥ b) = false := by simpa using h4
  by_cases h5 : c > a
  case pos =>
    have hd5 : decide (c > a) = true := by simpa using h5
    by_cases h6 : d < b
    case pos =>
      have hd6 : decide (d < b) = true := by simpa using h6
      have H1 := Lib.hid h1
      have H2 := Lib.hid h2
      have HF : Hid (bothF a b c d = (c, d, true)) := Lib.hid (by rw [bothF_ref, if_pos h1, if_pos h2, if_neg h3, if_neg h4, if_pos h5, if_pos h6])
      rw [HF.out]
      clear h1 h2 h3 h4 h5 h6
      go_enter Try.func14, Try.ntmps14
      go_wp2_with fail
      refine (ref_may a b _).mono ?_
      rintro e w1 ⟨rfl, hb⟩
      obtain ⟨hc1, hf1⟩ := bcell hb
      have BB1 := Lib.hid hb
      rw [H1.out]
      clear hb
      go_wp2_with fail
      refine (ref_may c d _).mono ?_
      rintro e w2 ⟨rfl, hb⟩
      have BB2 := Lib.hid (belowW BB1.out hb (by have := BB1.out.size; simpa using this))
      obtain ⟨hc2, hf2⟩ := bcell BB2.out
      clear hc1 hf1
      rw [H2.out]
      clear hb
      have HBK := Lib.hid (HN.out _ BB2.out).1
      have HB := Lib.hid (HN.out _ BB2.out).2
      have hlt := blk_lt HBK.out
      have hlt0 : w.heap.size < w2.heap.size := by omega
      have hlt1 : w.heap.size + 1 < w2.heap.size := by omega
      go_wp2
      have hb2 := blk_set (blk_set HBK.out 0 (.int .i64 c)) 1 (.int .i64 d)
      have q1 := blk_cell hb2 1
      have q2 := blk_cell (blk_set HBK.out 0 (.int .i64 c)) 0
      simp at q1 q2
      exact bodyPost_ret (v := .tuple #[.agg #[.int .i64 c, .int .i64 d], .bool true]) (by simp [results, Try.results14, go_sem, q1, q2, hlt]) rfl ⟨rfl, ((HB.out.setCell (p := ⟨w.heap.size + 1 + 1, 0, none⟩) (by show w.heap.size ≤ w.heap.size + 1 + 1; omega) _).setCell (p := ⟨w.heap.size + 1 + 1, 1, none⟩) (by show w.heap.size ≤ w.heap.size + 1 + 1; omega) _).alloc (by have := HB.out.size; simpa using this) _⟩
    case neg =>
      have hd6 : decide (d < b) = false := by simpa using h6
      have H1 := Lib.hid h1
      have H2 := Lib.hid h2
      have HF : Hid (bothF a b c d = (c, b, true)) := Lib.hid (by rw [bothF_ref, if_pos h1, if_pos h2, if_neg h3, if_neg h4, if_pos h5, if_neg h6])
      rw [HF.out]
      clear h1 h2 h3 h4 h5 h6
      go_enter Try.func14, Try.ntmps14
      go_wp2_with fail
      refine (ref_may a b _).mono ?_
      rintro e w1 ⟨rfl, hb⟩
      obtain ⟨hc1, hf1⟩ := bcell hb
      have BB1 := Lib.hid hb
      rw [H1.out]
      clear hb
      go_wp2_with fail
      refine (ref_may c d _).mono ?_
      rintro e w2 ⟨rfl, hb⟩
      have BB2 := Lib.hid (belowW BB1.out hb (by have := BB1.out.size; simpa using this))
      obtain ⟨hc2, hf2⟩ := bcell BB2.out
      clear hc1 hf1
      rw [H2.out]
      clear hb
      have HBK := Lib.hid (HN.out _ BB2.out).1
      have HB := Lib.hid (HN.out _ BB2.out).2
      have hlt := blk_lt HBK.out
      have hlt0 : w.heap.size < w2.heap.size := by omega
      have hlt1 : w.heap.size + 1 < w2.heap.size := by omega
      go_wp2
      have hb2 := blk_set (blk_set HBK.out 0 (.int .i64 c)) 1 (.int .i64 b)
      have q1 := blk_cell hb2 1
      have q2 := blk_cell (blk_set HBK.out 0 (.int .i64 c)) 0
      simp at q1 q2
      exact bodyPost_ret (v := .tuple #[.agg #[.int .i64 c, .int .i64 b], .bool true]) (by simp [results, Try.results14, go_sem, q1, q2, hlt]) rfl ⟨rfl, ((HB.out.setCell (p := ⟨w.heap.size + 1 + 1, 0, none⟩) (by show w.heap.size ≤ w.heap.size + 1 + 1; omega) _).setCell (p := ⟨w.heap.size + 1 + 1, 1, none⟩) (by show w.heap.size ≤ w.heap.size + 1 + 1; omega) _).alloc (by have := HB.out.size; simpa using this) _⟩
  case neg =>
    have hd5 : decide (c > a) = false := by simpa using h5
    by_cases h6 : d < b
    case pos =>
      have hd6 : decide (d < b) = true := by simpa using h6
      have H1 := Lib.hid h1
      have H2 := Lib.hid h2
      have HF : Hid (bothF a b c d = (a, d, true)) := Lib.hid (by rw [bothF_ref, if_pos h1, if_pos h2, if_neg h3, if_neg h4, if_neg h5, if_pos h6])
      rw [HF.out]
      clear h1 h2 h3 h4 h5 h6
      go_enter Try.func14, Try.ntmps14
      go_wp2_with fail
      refine (ref_may a b _).mono ?_
      rintro e w1 ⟨rfl, hb⟩
      obtain ⟨hc1, hf1⟩ := bcell hb
      have BB1 := Lib.hid hb
      rw [H1.out]
      clear hb
      go_wp2_with fail
      refine (ref_may c d _).mono ?_
      rintro e w2 ⟨rfl, hb⟩
      have BB2 := Lib.hid (belowW BB1.out hb (by have := BB1.out.size; simpa using this))
      obtain ⟨hc2, hf2⟩ := bcell BB2.out
      clear hc1 hf1
      rw [H2.out]
      clear hb
      have HBK := Lib.hid (HN.out _ BB2.out).1
      have HB := Lib.hid (HN.out _ BB2.out).2
      have hlt := blk_lt HBK.out
      have hlt0 : w.heap.size < w2.heap.size := by omega
      have hlt1 : w.heap.size + 1 < w2.heap.size := by omega
      go_wp2
      have hb2 := blk_set (blk_set HBK.out 0 (.int .i64 a)) 1 (.int .i64 d)
      have q1 := blk_cell hb2 1
      have q2 := blk_cell (blk_set HBK.out 0 (.int .i64 a)) 0
      simp at q1 q2
      exact bodyPost_ret (v := .tuple #[.agg #[.int .i64 a, .int .i64 d], .bool true]) (by simp [results, Try.results14, go_sem, q1, q2, hlt]) rfl ⟨rfl, ((HB.out.setCell (p := ⟨w.heap.size + 1 + 1, 0, none⟩) (by show w.heap.size ≤ w.heap.size + 1 + 1; omega) _).setCell (p := ⟨w.heap.size + 1 + 1, 1, none⟩) (by show w.heap.size ≤ w.heap.size + 1 + 1; omega) _).alloc (by have := HB.out.size; simpa using this) _⟩
    case neg =>
      have hd6 : decide (d < b) = false := by simpa using h6
      have H1 := Lib.hid h1
      have H2 := Lib.hid h2
      have HF : Hid (bothF a b c d = (a, b, true)) := Lib.hid (by rw [bothF_ref, if_pos h1, if_pos h2, if_neg h3, if_neg h4, if_neg h5, if_neg h6])
      rw [HF.out]
      clear h1 h2 h3 h4 h5 h6
      go_enter Try.func14, Try.ntmps14
      go_wp2_with fail
      refine (ref_may a b _).mono ?_
      rintro e w1 ⟨rfl, hb⟩
      obtain ⟨hc1, hf1⟩ := bcell hb
      have BB1 := Lib.hid hb
      rw [H1.out]
      clear hb
      go_wp2_with fail
      refine (ref_may c d _).mono ?_
      rintro e w2 ⟨rfl, hb⟩
      have BB2 := Lib.hid (belowW BB1.out hb (by have := BB1.out.size; simpa using this))
      obtain ⟨hc2, hf2⟩ := bcell BB2.out
      clear hc1 hf1
      rw [H2.out]
      clear hb
      have HBK := Lib.hid (HN.out _ BB2.out).1
      have HB := Lib.hid (HN.out _ BB2.out).2
      have hlt := blk_lt HBK.out
      have hlt0 : w.heap.size < w2.heap.size := by omega
      have hlt1 : w.heap.size + 1 < w2.heap.size := by omega
      go_wp2
      have hb2 := blk_set (blk_set HBK.out 0 (.int .i64 a)) 1 (.int .i64 b)
      have q1 := blk_cell hb2 1
      have q2 := blk_cell (blk_set HBK.out 0 (.int .i64 a)) 0
      simp at q1 q2
      exact bodyPost_ret (v := .tuple #[.agg #[.int .i64 a, .int .i64 b], .bool true]) (by simp [results, Try.results14, go_sem, q1, q2, hlt]) rfl ⟨rfl, ((HB.out.setCell (p := ⟨w.heap.size + 1 + 1, 0, none⟩) (by show w.heap.size ≤ w.heap.size + 1 + 1; omega) _).setCell (p := ⟨w.heap.size + 1 + 1, 1, none⟩) (by show w.heap.size ≤ w.heap.size + 1 + 1; omega) _).alloc (by have := HB.out.size; simpa using this) _⟩
def tollbarref1_Both.f (a b c d : Int) : Option (Int × Int × Bool) := some (bothF a b c d)
theorem tollbarref1_Both.calls (a0_0 : Int) (a0_1 : Int) (a1_0 : Int) (a1_1 : Int) (r1 : Int) (r2 : Int) (r3 : Bool) (w : World) (h : tollbarref1_Both.f a0_0 a0_1 a1_0 a1_1 = some (r1, r2, r3)) :
    Calls Try.prog 14 #[.agg #[.int .i64 a0_0, .int .i64 a0_1], .agg #[.int .i64 a1_0, .int .i64 a1_1]] w fun e w' => e = .returned (.tuple #[.agg #[.int .i64 r1, .int .i64 r2], .bool r3]) ∧ Below w.heap.size w w' := by
  have := ref_both a0_0 a0_1 a1_0 a1_1 w
  rw [Option.some.inj h] at this
  exact this
def tollbarref1_SpanMay.f (a b : Int) : Option Bool := some (mayF a b)
theorem tollbarref1_SpanMay.calls (a0_0 : Int) (a0_1 : Int) (r : Bool) (w : World) (h : tollbarref1_SpanMay.f a0_0 a0_1 = some r) :
    Calls Try.prog 18 #[.agg #[.int .i64 a0_0, .int .i64 a0_1]] w fun e w' => e = .returned (.bool r) ∧ Below w.heap.size w w' := by
  cases h
  exact ref_may a0_0 a0_1 w
end Go.Proofs.Ytbacdpagpdmkoaa.Man
