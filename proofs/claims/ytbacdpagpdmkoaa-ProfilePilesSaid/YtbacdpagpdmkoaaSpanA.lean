/- Chapter 2's 'awake' returns true. -/
import Derived.Test.YtbacdpagpdmkoaaSpanB
import Derived.Test.YtbacdpagpdmkoaaSpanP
set_option linter.unusedVariables false
namespace Go.Proofs.Ytbacdpagpdmkoaa.Man
open Go.RowKit Go.Proofs.Ytbacdpagpdmkoaa.QT Go.Proofs.YtbacdpagpdmkoaaW.PrintWords Go.Proofs.YtbacdpagpdmkoaaW.PrintLast Go.Proofs.YtbacdpagpdmkoaaW.PrintMore
attribute [local go_sem high] eqA23

theorem aw_sort : sortF [9, 4, 3, 4] = [3, 4, 4, 9] := by simp [sortF, List.mergeSort, List.MergeSort.Internal.splitInTwo]
theorem aw_cut : cutF 2 9 [4, 3, 4, 9] = ([⟨2, 3⟩, ⟨3, 4⟩, ⟨4, 9⟩], 0) := by
  have h : within 2 9 [4, 3, 4, 9] = [4, 3, 4] := by decide
  unfold cutF
  rw [if_pos (by decide), h, aw_sort]
  rfl
theorem aw_both : bothF 2 9 5 20 = (5, 9, true) := by decide
theorem aw_meet : (bothF 2 9 5 9).2.2 = true := by decide
theorem aw_cover : coverF [⟨2, 9⟩, ⟨5, 20⟩] = (2, 20, 0) := by decide
theorem lit2 {w : World} {base : Nat} {ok : Nat → Prop} (x y : S23) : Reps (k23.M w base ok) 2 [x, y] [.int .i64 x.f0, .int .i64 x.f1, .int .i64 y.f0, .int .i64 y.f1] := Reps.snoc (Reps.snoc (Reps.none _ _) (k23_mkM w base ok x) rfl) (k23_mkM w base ok y) rfl
theorem lit3 {w : World} {base : Nat} {ok : Nat → Prop} (x y z : S23) : Reps (k23.M w base ok) 2 [x, y, z] [.int .i64 x.f0, .int .i64 x.f1, .int .i64 y.f0, .int .i64 y.f1, .int .i64 z.f0, .int .i64 z.f1] := Reps.snoc (lit2 x y) (k23_mkM w base ok z) rfl
theorem lit3_C (W : World) (x y z : S23) : k23.C (W.alloc (.cells #[.int .i64 x.f0, .int .i64 x.f1, .int .i64 y.f0, .int .i64 y.f1, .int .i64 z.f0, .int .i64 z.f1] 23)) (some ⟨W.heap.size, 0, none⟩) 3 [x, y, z] := by
  have h : Kd.R k23 23 (W.alloc (.cells #[.int .i64 x.f0, .int .i64 x.f1, .int .i64 y.f0, .int .i64 y.f1, .int .i64 z.f0, .int .i64 z.f1] 23)) W.heap.size (fun _ => True) (.slice (some ⟨W.heap.size, 0, none⟩) 3 3) [x, y, z] :=
    ⟨fun _ _ => trivial, _, World.ownsRow_lit (base := W.heap.size) (e := 23) (size := 2) W _ 3 (Nat.le_refl _) (by decide) rfl, lit3 x y z⟩
  obtain ⟨A, c, e, _, hC⟩ := Kd.R_reads h
  injection e with e1 e2 e3
  rw [e1]
  exact hC

set_option maxHeartbeats 8000000 in
set_option maxRecDepth 100000 in
theorem awake2 (w : World) : Calls Try.prog 15 #[] w fun e w' => e = .returned (.bool true) ∧ Below w.heap.size w w' := by
  go_enter Try.func15, Try.ntmps15
  go_wp2_with fail
  refine (both_is 2 9 5 20 _).mono ?_
  rintro e w1 ⟨rfl, hb⟩
  rw [aw_both]
  have HB1 := Lib.hid (belowW ((Below.refl w.heap.size w).alloc (Nat.le_refl _) _) hb (by simp))
  have HA1 := Lib.hid (blk_below (blk_new w (.cells #[.int .i64 2, .int .i64 9] 23 (0, 0))) hb)
  clear hb
  have a0 := blk_cell HA1.out 0
  have a1 := blk_cell HA1.out 1
  have al := blk_lt HA1.out
  go_wp2_with (first | ((with_reducible refine gate_dst (N := 20) rfl ?_); refine Kd.R_lit k23 (w0 := w) w.heap.size 23 ?hg (N := 20) ?hd (xs := [⟨2, 9⟩, ⟨5, 20⟩]) (inner := [.int .i64 2, .int .i64 9, .int .i64 5, .int .i64 20]) (ok := fun _ => True) (okp := fun _ => True) ?hr ?hp (fun _ hk => hk) trivial (HB1.out.alloc HB1.out.size _) (by have := HB1.out.size; simp; omega) (by simp) ?_; (case hd => rfl); (case hg => rfl); (case hr => first | (go_simp; done) | (go_simp; rfl)); (case hp => exact lit2 ⟨2, 9⟩ ⟨5, 20⟩); intro v2 w2 ho2 hb2 hg2 _; have HO2 := Lib.hid ho2; have HB2 := Lib.hid hb2; have HA2 := Lib.hid (blk_grown (blk_alloc HA1.out _) hg2 (by simp)); have HE2 := Lib.hid (blk_grown (blk_new w1 (.cells #[.int .i64 5, .int .i64 9] 23 (0, 0))) hg2 (by simp)); clear ho2 hb2 hg2 a0 a1 al))
  obtain ⟨g2, hg2⟩ : ∃ g, w1.heap.size = g := ⟨_, rfl⟩
  rw [hg2] at HE2 ⊢
  clear hg2
  obtain ⟨A2, c2, rfl, hc2, hC2⟩ := Kd.R_reads HO2.out
  refine (cover_is A2 c2 [⟨2, 9⟩, ⟨5, 20⟩] w2 hC2 hc2 (by simp)).mono ?_
  rintro e w3 ⟨rfl, hb⟩
  rw [aw_cover]
  clear hC2 hc2
  have HB3 := Lib.hid (belowW (by first | exact HB2.out | exact HB2.out.alloc HB2.out.size _ | exact (HB2.out.alloc HB2.out.size _).alloc (by have := HB2.out.size; simp; omega) _) hb (by have := HB2.out.size; first | exact this | (simp; omega)))
  have HA3 := Lib.hid (blk_below (by first | exact HA2.out | exact blk_alloc HA2.out _ | exact blk_alloc (blk_alloc HA2.out _) _) hb)
  have HE3 := Lib.hid (blk_below (by first | exact HE2.out | exact blk_alloc HE2.out _ | exact blk_alloc (blk_alloc HE2.out _) _) hb)
  clear hb
  have a0 := blk_cell HA3.out 0
  have a1 := blk_cell HA3.out 1
  have al := blk_lt HA3.out
  have e0 := blk_cell HE3.out 0
  have e1 := blk_cell HE3.out 1
  have el := blk_lt HE3.out
  go_wp2_with (first | ((with_reducible refine gate_dst (N := 26) rfl ?_); refine Kd.R_lit (Kd.int .i64) (w0 := w) w.heap.size 3 ?hg (N := 26) ?hd (xs := [4, 3, 4, 9]) (inner := [.int .i64 4, .int .i64 3, .int .i64 4, .int .i64 9]) (ok := fun _ => True) (okp := fun _ => True) ?hr ?hp (fun _ hk => hk) trivial (HB3.out.alloc HB3.out.size _) (by have := HB3.out.size; simp; omega) (by simp) ?_; (case hd => rfl); (case hg => rfl); (case hr => first | (go_simp; done) | (go_simp; rfl)); (case hp => exact Reps.one (show Kd.M (Kd.int .i64) _ _ _ 4 [.int .i64 4] from rfl) (Reps.one (show Kd.M (Kd.int .i64) _ _ _ 3 [.int .i64 3] from rfl) (Reps.one (show Kd.M (Kd.int .i64) _ _ _ 4 [.int .i64 4] from rfl) (Reps.one (show Kd.M (Kd.int .i64) _ _ _ 9 [.int .i64 9] from rfl) (Reps.none _ _))))); intro v4 w4 ho4 hb4 hg4 _; have HO4 := Lib.hid ho4; have HB4 := Lib.hid hb4; have HA4 := Lib.hid (blk_grown (blk_alloc HA3.out _) hg4 (by simp)); have HE4 := Lib.hid (blk_grown (blk_alloc HE3.out _) hg4 (by simp)); have HC4 := Lib.hid (blk_grown (blk_new w3 (.cells #[.int .i64 2, .int .i64 20] 23 (0, 0))) hg4 (by simp)); clear ho4 hb4 hg4 a0 a1 al e0 e1 el))
  obtain ⟨g4, hg4⟩ : ∃ g, w3.heap.size = g := ⟨_, rfl⟩
  rw [hg4] at HC4 ⊢
  clear hg4
  obtain ⟨A4, c4, rfl, hc4, hC4⟩ := Kd.R_reads HO4.out
  refine (cut_is 2 9 A4 c4 [4, 3, 4, 9] w4 hC4 hc4 (by simp)).mono ?_
  rintro e w5 ⟨v5, rfl, ho5, hb⟩
  clear hC4 hc4
  rw [aw_cut] at ho5 ⊢
  have HB5 := Lib.hid (belowW (by first | exact HB4.out | exact HB4.out.alloc HB4.out.size _ | exact (HB4.out.alloc HB4.out.size _).alloc (by have := HB4.out.size; simp; omega) _) hb (by have := HB4.out.size; first | exact this | (simp; omega)))
  have HA5 := Lib.hid (blk_below (by first | exact HA4.out | exact blk_alloc HA4.out _ | exact blk_alloc (blk_alloc HA4.out _) _) hb)
  have HE5 := Lib.hid (blk_below (by first | exact HE4.out | exact blk_alloc HE4.out _ | exact blk_alloc (blk_alloc HE4.out _) _) hb)
  have HC5 := Lib.hid (blk_below (by first | exact HC4.out | exact blk_alloc HC4.out _ | exact blk_alloc (blk_alloc HC4.out _) _) hb)
  clear hb
  obtain ⟨A5, c5, rfl, hc5, hC5⟩ := Kd.R_reads ho5
  have HC5s := Lib.hid hC5
  have HR5 := Lib.hid (Kd.R_lower ho5 HB4.out.size)
  clear ho5 hC5
  go_wp2_with fail
  refine (cover_is none 0 [] w5 (Kd.C_nil _ _) (Nat.le_refl _) (by simp)).mono ?_
  rintro e w6 ⟨rfl, hb⟩
  rw [show coverF [] = (0, 0, 200) from rfl]
  have HC6s := Lib.hid (Kd.C_below HC5s.out hb)
  have HB6 := Lib.hid (belowW (by first | exact HB5.out | exact HB5.out.alloc HB5.out.size _ | exact (HB5.out.alloc HB5.out.size _).alloc (by have := HB5.out.size; simp; omega) _) hb (by have := HB5.out.size; first | exact this | (simp; omega)))
  have HA6 := Lib.hid (blk_below (by first | exact HA5.out | exact blk_alloc HA5.out _ | exact blk_alloc (blk_alloc HA5.out _) _) hb)
  have HE6 := Lib.hid (blk_below (by first | exact HE5.out | exact blk_alloc HE5.out _ | exact blk_alloc (blk_alloc HE5.out _) _) hb)
  have HC6 := Lib.hid (blk_below (by first | exact HC5.out | exact blk_alloc HC5.out _ | exact blk_alloc (blk_alloc HC5.out _) _) hb)
  clear hb
  have a0 := blk_cell HA6.out 0
  have a1 := blk_cell HA6.out 1
  have al := blk_lt HA6.out
  have e0 := blk_cell HE6.out 0
  have e1 := blk_cell HE6.out 1
  have el := blk_lt HE6.out
  have c0 := blk_cell HC6.out 0
  have c1 := blk_cell HC6.out 1
  have cl := blk_lt HC6.out
  go_wp2_with fail
  refine (may_is 2 9 _).mono ?_
  rintro e w7 ⟨rfl, hb⟩
  rw [show mayF 2 9 = true from rfl]
  have HC7s := Lib.hid (Kd.C_below (by first | exact HC6s.out | exact Kd.C_alloc HC6s.out _) hb)
  clear a0 a1 al e0 e1 el c0 c1 cl
  have HB7 := Lib.hid (belowW (by first | exact HB6.out | exact HB6.out.alloc HB6.out.size _ | exact (HB6.out.alloc HB6.out.size _).alloc (by have := HB6.out.size; simp; omega) _) hb (by have := HB6.out.size; first | exact this | (simp; omega)))
  have HA7 := Lib.hid (blk_below (by first | exact HA6.out | exact blk_alloc HA6.out _ | exact blk_alloc (blk_alloc HA6.out _) _) hb)
  have HE7 := Lib.hid (blk_below (by first | exact HE6.out | exact blk_alloc HE6.out _ | exact blk_alloc (blk_alloc HE6.out _) _) hb)
  have HC7 := Lib.hid (blk_below (by first | exact HC6.out | exact blk_alloc HC6.out _ | exact blk_alloc (blk_alloc HC6.out _) _) hb)
  clear hb
  have a0 := blk_cell HA7.out 0
  have a1 := blk_cell HA7.out 1
  have al := blk_lt HA7.out
  have e0 := blk_cell HE7.out 0
  have e1 := blk_cell HE7.out 1
  have el := blk_lt HE7.out
  have c0 := blk_cell HC7.out 0
  have c1 := blk_cell HC7.out 1
  have cl := blk_lt HC7.out
  go_wp2_with fail
  refine (may_is 0 0 _).mono ?_
  rintro e w8 ⟨rfl, hb⟩
  rw [show mayF 0 0 = false from rfl]
  have HC8s := Lib.hid (Kd.C_below (by first | exact HC7s.out | exact Kd.C_alloc HC7s.out _) hb)
  clear a0 a1 al e0 e1 el c0 c1 cl
  have HB8 := Lib.hid (belowW (by first | exact HB7.out | exact HB7.out.alloc HB7.out.size _ | exact (HB7.out.alloc HB7.out.size _).alloc (by have := HB7.out.size; simp; omega) _) hb (by have := HB7.out.size; first | exact this | (simp; omega)))
  have HA8 := Lib.hid (blk_below (by first | exact HA7.out | exact blk_alloc HA7.out _ | exact blk_alloc (blk_alloc HA7.out _) _) hb)
  have HE8 := Lib.hid (blk_below (by first | exact HE7.out | exact blk_alloc HE7.out _ | exact blk_alloc (blk_alloc HE7.out _) _) hb)
  have HC8 := Lib.hid (blk_below (by first | exact HC7.out | exact blk_alloc HC7.out _ | exact blk_alloc (blk_alloc HC7.out _) _) hb)
  clear hb
  have a0 := blk_cell HA8.out 0
  have a1 := blk_cell HA8.out 1
  have al := blk_lt HA8.out
  have e0 := blk_cell HE8.out 0
  have e1 := blk_cell HE8.out 1
  have el := blk_lt HE8.out
  have c0 := blk_cell HC8.out 0
  have c1 := blk_cell HC8.out 1
  have cl := blk_lt HC8.out
  go_wp2_with fail
  refine (has_is 2 9 2 _).mono ?_
  rintro e w9 ⟨rfl, hb⟩
  rw [show hasF 2 9 2 = true from rfl]
  have HC9s := Lib.hid (Kd.C_below (by first | exact HC8s.out | exact Kd.C_alloc HC8s.out _) hb)
  clear a0 a1 al e0 e1 el c0 c1 cl
  have HB9 := Lib.hid (belowW (by first | exact HB8.out | exact HB8.out.alloc HB8.out.size _ | exact (HB8.out.alloc HB8.out.size _).alloc (by have := HB8.out.size; simp; omega) _) hb (by have := HB8.out.size; first | exact this | (simp; omega)))
  have HA9 := Lib.hid (blk_below (by first | exact HA8.out | exact blk_alloc HA8.out _ | exact blk_alloc (blk_alloc HA8.out _) _) hb)
  have HE9 := Lib.hid (blk_below (by first | exact HE8.out | exact blk_alloc HE8.out _ | exact blk_alloc (blk_alloc HE8.out _) _) hb)
  have HC9 := Lib.hid (blk_below (by first | exact HC8.out | exact blk_alloc HC8.out _ | exact blk_alloc (blk_alloc HC8.out _) _) hb)
  clear hb
  have a0 := blk_cell HA9.out 0
  have a1 := blk_cell HA9.out 1
  have al := blk_lt HA9.out
  have e0 := blk_cell HE9.out 0
  have e1 := blk_cell HE9.out 1
  have el := blk_lt HE9.out
  have c0 := blk_cell HC9.out 0
  have c1 := blk_cell HC9.out 1
  have cl := blk_lt HC9.out
  go_wp2_with fail
  refine (has_is 2 9 9 _).mono ?_
  rintro e w10 ⟨rfl, hb⟩
  rw [show hasF 2 9 9 = false from rfl]
  have HC10s := Lib.hid (Kd.C_below (by first | exact HC9s.out | exact Kd.C_alloc HC9s.out _) hb)
  clear a0 a1 al e0 e1 el c0 c1 cl
  have HB10 := Lib.hid (belowW (by first | exact HB9.out | exact HB9.out.alloc HB9.out.size _ | exact (HB9.out.alloc HB9.out.size _).alloc (by have := HB9.out.size; simp; omega) _) hb (by have := HB9.out.size; first | exact this | (simp; omega)))
  have HA10 := Lib.hid (blk_below (by first | exact HA9.out | exact blk_alloc HA9.out _ | exact blk_alloc (blk_alloc HA9.out _) _) hb)
  have HE10 := Lib.hid (blk_below (by first | exact HE9.out | exact blk_alloc HE9.out _ | exact blk_alloc (blk_alloc HE9.out _) _) hb)
  have HC10 := Lib.hid (blk_below (by first | exact HC9.out | exact blk_alloc HC9.out _ | exact blk_alloc (blk_alloc HC9.out _) _) hb)
  clear hb
  have a0 := blk_cell HA10.out 0
  have a1 := blk_cell HA10.out 1
  have al := blk_lt HA10.out
  have e0 := blk_cell HE10.out 0
  have e1 := blk_cell HE10.out 1
  have el := blk_lt HE10.out
  have c0 := blk_cell HC10.out 0
  have c1 := blk_cell HC10.out 1
  have cl := blk_lt HC10.out
  go_wp2_with fail
  refine (num_is _ _).mono ?_
  rintro e wn ⟨rfl, rfl⟩
  go_wp2_with fail
  refine (num_is _ _).mono ?_
  rintro e wn ⟨rfl, rfl⟩
  go_wp2_with fail
  obtain ⟨W, hW⟩ : ∃ W, w10.alloc (Obj.cells #[Value.int .i64 2, Value.int .i64 3, Value.int .i64 3, Value.int .i64 4, Value.int .i64 4, Value.int .i64 9] 23) = W := ⟨_, rfl⟩
  have hC20 := lit3_C w10 ⟨2, 3⟩ ⟨3, 4⟩ ⟨4, 9⟩
  have HC20s := Lib.hid (Kd.C_alloc HC10s.out (Obj.cells #[Value.int .i64 2, Value.int .i64 3, Value.int .i64 3, Value.int .i64 4, Value.int .i64 4, Value.int .i64 9] 23))
  have HB20 := Lib.hid (HB10.out.alloc HB10.out.size (Obj.cells #[Value.int .i64 2, Value.int .i64 3, Value.int .i64 3, Value.int .i64 4, Value.int .i64 4, Value.int .i64 9] 23))
  have HA20 := Lib.hid (blk_alloc HA10.out (Obj.cells #[Value.int .i64 2, Value.int .i64 3, Value.int .i64 3, Value.int .i64 4, Value.int .i64 4, Value.int .i64 9] 23))
  have HE20 := Lib.hid (blk_alloc HE10.out (Obj.cells #[Value.int .i64 2, Value.int .i64 3, Value.int .i64 3, Value.int .i64 4, Value.int .i64 4, Value.int .i64 9] 23))
  have HC20 := Lib.hid (blk_alloc HC10.out (Obj.cells #[Value.int .i64 2, Value.int .i64 3, Value.int .i64 3, Value.int .i64 4, Value.int .i64 4, Value.int .i64 9] 23))
  clear a0 a1 al e0 e1 el c0 c1 cl
  rw [hW] at hC20 HC20s HB20 HA20 HE20 HC20 ⊢
  clear hW
  refine (same_spans A5 c5 [⟨2, 3⟩, ⟨3, 4⟩, ⟨4, 9⟩] (some ⟨w10.heap.size, 0, none⟩) 3 [⟨2, 3⟩, ⟨3, 4⟩, ⟨4, 9⟩] W HC20s.out hc5 hC20 (Nat.le_refl _) (by simp)).mono ?_
  rintro e w21 ⟨rfl, nd, rfl⟩
  rw [decide_eq_true rfl]
  clear hC20
  have a0 := blk_cell HA20.out 0
  have a1 := blk_cell HA20.out 1
  have al := blk_lt HA20.out
  have e0 := blk_cell HE20.out 0
  have e1 := blk_cell HE20.out 1
  have el := blk_lt HE20.out
  have c0 := blk_cell HC20.out 0
  have c1 := blk_cell HC20.out 1
  have cl := blk_lt HC20.out
  go_wp2_with fail
  refine (num_is _ _).mono ?_
  rintro e wn ⟨rfl, rfl⟩
  go_wp2_with fail
  refine (meets_is 2 9 5 9 _).mono ?_
  rintro e w22 ⟨rfl, hb⟩
  rw [aw_meet]
  have HB22 := Lib.hid (below_then (pw_below_drewN HB20.out nd) HB20.out.size hb)
  clear hb
  clear a0 a1 al e0 e1 el c0 c1 cl
  go_wp2
  go_ret
  exact ⟨rfl, HB22.out⟩
def tollbarlaw2_awake.f : Option Bool := some true
theorem tollbarlaw2_awake.calls (r : Bool) (w : World) (h : tollbarlaw2_awake.f = some r) : Calls Try.prog 15 #[] w fun e w' => e = .returned (.bool r) ∧ Below w.heap.size w w' := by
  cases h
  exact awake2 w
end Go.Proofs.Ytbacdpagpdmkoaa.Man
