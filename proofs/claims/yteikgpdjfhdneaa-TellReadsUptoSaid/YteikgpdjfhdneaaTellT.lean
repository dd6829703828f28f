/- tollbarlaw23.awake: it answers true (printed by gen_tellT.py). -/
import Derived.Test.YteikgpdjfhdneaaTellS
import Derived.Test.YteikgpdjfhdneaaQGm
import Derived.Test.YteikgpdjfhdneaaQHm
set_option linter.unusedVariables false
set_option linter.unusedSimpArgs false
namespace Go.Proofs.Yteikgpdjfhdneaa.Man
open Go.RowKit Go.Proofs.Yteikgpdjfhdneaa.QT Go.Proofs.Yteikgpdjfhdneaa.QL Go.Proofs.Yteikgpdjfhdneaa.QG Go.Proofs.Yteikgpdjfhdneaa.QH Go.Proofs.YteikgpdjfhdneaaW.PrintWords Go.Proofs.YteikgpdjfhdneaaW.PrintLast Go.Proofs.YteikgpdjfhdneaaW.PrintMore
theorem awk_write : tell_Write.f 60 0 0 7 [0, 2] 3 0 0 0 0 [] = some (⟨#[1, 3, 1, 7, 1, 2, 0, 1, 2]⟩, 0) := by decide +kernel
theorem awk_read : tell_Read.f 60 ⟨#[1, 3, 1, 7, 1, 2, 0, 1, 2]⟩ = some (0, 0, 7, [0, 2], 3, 0, 0, 0, 0, [], 0) := by kernel_rfl
theorem awk_bad : tell_Read.f 60 ⟨#[1, 4, 0]⟩ = some (0, 0, 0, [], 0, 0, 0, 0, 0, [], 2300) := by kernel_rfl
theorem awk_same : tollbarlaw0_SameReply.f 60 0 0 7 [0, 2] 3 0 0 0 0 [] 0 0 7 [0, 2] 3 0 0 0 0 [] = some true := by decide +kernel
theorem awk_may : tell_May.f 0 0 7 [0, 2] 3 0 0 0 0 [] = some true := by decide +kernel
theorem awk_not : tell_May.f 0 0 0 [] 0 0 0 0 0 [] = some false := by decide +kernel
theorem num_is (x : Int) (w : World) : Calls Try.prog 17 #[.int .i64 x] w fun e w' => e = .returned (.int .i64 x) ∧ w = w' := by
  go_enter Try.func17, Try.ntmps17
  go_wp2
  go_ret
  exact ⟨rfl, rfl⟩
theorem lit2I_C (W : World) (x y : Int) : (Kd.int .i64).C (W.alloc (.cells #[.int .i64 x, .int .i64 y] 3 (0, 0))) (some ⟨W.heap.size, 0, none⟩) 2 [x, y] := by
  refine Kd.C_of_reads (d := 0) ⟨rfl, by decide, fun _ => ⟨_, rfl, fun j hj => ?_⟩⟩
  have hb := blk_new W (.cells #[.int .i64 x, .int .i64 y] 3 (0, 0))
  rcases j with _ | _ | j
  · simp [Addr.add]
  · simp [Addr.add]
  · omega
set_option maxHeartbeats 4000000 in
set_option maxRecDepth 100000 in
theorem awake_is (w : World) : Calls Try.prog 26 #[] w fun e w' => e = .returned (.bool true) ∧ Below w.heap.size w w' := by
  have HC0 := Lib.hid (lit2I_C w 0 2)
  have HB0 := Lib.hid (((Below.refl w.heap.size w).alloc (Nat.le_refl _) (.cells #[.int .i64 0, .int .i64 2] 3 (0, 0))).alloc (by simp) (.cells #[.int .i64 0, .int .i64 0, .int .i64 7, .slice (some ⟨w.heap.size, 0, none⟩) 2 2, .int .i64 3, .int .i64 0, .int .i64 0, .int .i64 0, .int .i64 0, .slice none 0 0] 48 (0, 0)))
  have HR0 := Lib.hid (blk_new (w.alloc (.cells #[.int .i64 0, .int .i64 2] 3 (0, 0))) (.cells #[.int .i64 0, .int .i64 0, .int .i64 7, .slice (some ⟨w.heap.size, 0, none⟩) 2 2, .int .i64 3, .int .i64 0, .int .i64 0, .int .i64 0, .int .i64 0, .slice none 0 0] 48 (0, 0)))
  obtain ⟨b1, hb1⟩ : ∃ b1, (w.alloc (.cells #[.int .i64 0, .int .i64 2] 3 (0, 0))).heap.size = b1 := ⟨_, rfl⟩
  have hbs : w.heap.size + 1 = b1 := by rw [← hb1]; simp
  rw [hb1] at HR0
  go_enter Try.func26, Try.ntmps26
  go_wp2_with fail
  have HC00 := Lib.hid (Kd.C_alloc HC0.out (.cells #[.int .i64 0, .int .i64 0, .int .i64 7, .slice (some ⟨w.heap.size, 0, none⟩) 2 2, .int .i64 3, .int .i64 0, .int .i64 0, .int .i64 0, .int .i64 0, .slice none 0 0] 48 (0, 0)))
  try rw [hbs]
  generalize (w.alloc (.cells #[.int .i64 0, .int .i64 2] 3 (0, 0))).alloc (.cells #[.int .i64 0, .int .i64 0, .int .i64 7, .slice (some ⟨w.heap.size, 0, none⟩) 2 2, .int .i64 3, .int .i64 0, .int .i64 0, .int .i64 0, .int .i64 0, .slice none 0 0] 48 (0, 0)) = W0 at HB0 HR0 HC00 ⊢
  refine (tell_Write.calls 60 0 0 7 (some ⟨w.heap.size, 0, none⟩) 2 [0, 2] 3 0 0 0 0 none 0 [] (⟨#[1, 3, 1, 7, 1, 2, 0, 1, 2]⟩ : ByteArray) 0 W0 HC00.out (by decide) (Kd.C_nil _ _) (by decide) awk_write).mono ?_
  rintro e w1 ⟨rfl, hb1'⟩
  have HR1 := Lib.hid (blk_below HR0.out hb1')
  have HB1 := Lib.hid (below_then HB0.out HB0.out.size hb1')
  have HC1 := Lib.hid (Kd.C_below HC00.out hb1')
  clear HC0 HB0 HR0 HC00 hb1'
  go_wp2_with fail
  refine (tell_Read.calls 60 (⟨#[1, 3, 1, 7, 1, 2, 0, 1, 2]⟩ : ByteArray) 0 0 7 [0, 2] 3 0 0 0 0 [] 0 w1 awk_read).mono ?_
  rintro e w2 ⟨v3, v9, rfl, h3, h9, hb2⟩
  obtain ⟨A3, c3, rfl, hl3, hC3⟩ := Kd.R_reads h3
  obtain ⟨A9, c9, rfl, hl9, hC9⟩ := Kd.R_reads h9
  have HR2 := Lib.hid (blk_alloc (blk_below HR1.out hb2) (.cells #[.int .i64 0, .int .i64 0, .int .i64 7, .slice A3 2 c3, .int .i64 3, .int .i64 0, .int .i64 0, .int .i64 0, .int .i64 0, .slice A9 0 c9] 48 (0, 0)))
  have HB2 := Lib.hid ((below_then HB1.out HB1.out.size hb2).alloc (below_then HB1.out HB1.out.size hb2).size (.cells #[.int .i64 0, .int .i64 0, .int .i64 7, .slice A3 2 c3, .int .i64 3, .int .i64 0, .int .i64 0, .int .i64 0, .int .i64 0, .slice A9 0 c9] 48 (0, 0)))
  have HC2 := Lib.hid (Kd.C_alloc (Kd.C_below HC1.out hb2) (.cells #[.int .i64 0, .int .i64 0, .int .i64 7, .slice A3 2 c3, .int .i64 3, .int .i64 0, .int .i64 0, .int .i64 0, .int .i64 0, .slice A9 0 c9] 48 (0, 0)))
  have HC32 := Lib.hid (Kd.C_alloc hC3 (.cells #[.int .i64 0, .int .i64 0, .int .i64 7, .slice A3 2 c3, .int .i64 3, .int .i64 0, .int .i64 0, .int .i64 0, .int .i64 0, .slice A9 0 c9] 48 (0, 0)))
  have HC92 := Lib.hid (Kd.C_alloc hC9 (.cells #[.int .i64 0, .int .i64 0, .int .i64 7, .slice A3 2 c3, .int .i64 3, .int .i64 0, .int .i64 0, .int .i64 0, .int .i64 0, .slice A9 0 c9] 48 (0, 0)))
  have HT2 := Lib.hid (blk_new w2 (.cells #[.int .i64 0, .int .i64 0, .int .i64 7, .slice A3 2 c3, .int .i64 3, .int .i64 0, .int .i64 0, .int .i64 0, .int .i64 0, .slice A9 0 c9] 48 (0, 0)))
  clear HR1 HB1 HC1 hb2 h3 h9 hC3 hC9
  go_wp2_with fail
  simp only [List.length_cons, List.length_nil, Nat.zero_add, Nat.reduceAdd] at hl3 hl9 HC32 HC92 ⊢
  generalize (w2.alloc (.cells #[.int .i64 0, .int .i64 0, .int .i64 7, .slice A3 2 c3, .int .i64 3, .int .i64 0, .int .i64 0, .int .i64 0, .int .i64 0, .slice A9 0 c9] 48 (0, 0))) = W2 at HR2 HB2 HC2 HC32 HC92 HT2 ⊢
  refine (tell_Read.calls 60 ⟨#[1, 4, 0]⟩ 0 0 0 [] 0 0 0 0 0 [] 2300 W2 awk_bad).mono ?_
  rintro e w3 ⟨u3, u9, rfl, g3, g9, hb3⟩
  obtain ⟨A5, c5, rfl⟩ := Kd.R_slice g3
  obtain ⟨A6, c6, rfl⟩ := Kd.R_slice g9
  have hr3 := blk_below HR2.out hb3
  have ht3 := blk_below HT2.out hb3
  have HR3 := Lib.hid hr3
  have HB3 := Lib.hid (below_then HB2.out HB2.out.size hb3)
  have HC3 := Lib.hid (Kd.C_below HC2.out hb3)
  have HC33 := Lib.hid (Kd.C_below HC32.out hb3)
  have HC93 := Lib.hid (Kd.C_below HC92.out hb3)
  have hs1 := blk_lt hr3
  have hs2 := blk_lt ht3
  have p0 := blk_cell hr3 0
  have t0 := blk_cell ht3 0
  simp at p0 t0
  have p1 := blk_cell hr3 1
  have t1 := blk_cell ht3 1
  simp at p1 t1
  have p2 := blk_cell hr3 2
  have t2 := blk_cell ht3 2
  simp at p2 t2
  have p3 := blk_cell hr3 3
  have t3 := blk_cell ht3 3
  simp at p3 t3
  have p4 := blk_cell hr3 4
  have t4 := blk_cell ht3 4
  simp at p4 t4
  have p5 := blk_cell hr3 5
  have t5 := blk_cell ht3 5
  simp at p5 t5
  have p6 := blk_cell hr3 6
  have t6 := blk_cell ht3 6
  simp at p6 t6
  have p7 := blk_cell hr3 7
  have t7 := blk_cell ht3 7
  simp at p7 t7
  have p8 := blk_cell hr3 8
  have t8 := blk_cell ht3 8
  simp at p8 t8
  have p9 := blk_cell hr3 9
  have t9 := blk_cell ht3 9
  simp at p9 t9
  clear HR2 HB2 HC2 HC32 HC92 HT2 hb3 g3 g9 hr3 ht3
  go_wp2_with fail
  refine (num_is _ _).mono ?_
  rintro e w4 ⟨rfl, rfl⟩
  go_wp2_with fail
  have HR4 := Lib.hid (blk_alloc HR3.out (.cells #[.int .i64 0, .int .i64 0, .int .i64 0, .slice A5 0 c5, .int .i64 0, .int .i64 0, .int .i64 0, .int .i64 0, .int .i64 0, .slice A6 0 c6] 48 (0, 0)))
  have HB4 := Lib.hid (HB3.out.alloc HB3.out.size (.cells #[.int .i64 0, .int .i64 0, .int .i64 0, .slice A5 0 c5, .int .i64 0, .int .i64 0, .int .i64 0, .int .i64 0, .int .i64 0, .slice A6 0 c6] 48 (0, 0)))
  have HC4 := Lib.hid (Kd.C_alloc HC3.out (.cells #[.int .i64 0, .int .i64 0, .int .i64 0, .slice A5 0 c5, .int .i64 0, .int .i64 0, .int .i64 0, .int .i64 0, .int .i64 0, .slice A6 0 c6] 48 (0, 0)))
  have HC34 := Lib.hid (Kd.C_alloc HC33.out (.cells #[.int .i64 0, .int .i64 0, .int .i64 0, .slice A5 0 c5, .int .i64 0, .int .i64 0, .int .i64 0, .int .i64 0, .int .i64 0, .slice A6 0 c6] 48 (0, 0)))
  have HC94 := Lib.hid (Kd.C_alloc HC93.out (.cells #[.int .i64 0, .int .i64 0, .int .i64 0, .slice A5 0 c5, .int .i64 0, .int .i64 0, .int .i64 0, .int .i64 0, .int .i64 0, .slice A6 0 c6] 48 (0, 0)))
  clear HR3 HB3 HC3 HC33 HC93
  generalize (w3.alloc (.cells #[.int .i64 0, .int .i64 0, .int .i64 0, .slice A5 0 c5, .int .i64 0, .int .i64 0, .int .i64 0, .int .i64 0, .int .i64 0, .slice A6 0 c6] 48 (0, 0))) = W3 at HR4 HB4 HC4 HC34 HC94 ⊢
  refine (tollbarlaw0_SameReply.calls 60 0 0 7 A3 c3 [0, 2] 3 0 0 0 0 A9 c9 [] 0 0 7 (some ⟨w.heap.size, 0, none⟩) 2 [0, 2] 3 0 0 0 0 none 0 [] true W3 HC34.out hl3 HC94.out hl9 HC4.out (by decide) (Kd.C_nil _ _) (by decide) awk_same).mono ?_
  rintro e w5 ⟨rfl, hb5⟩
  have hr5 := blk_below HR4.out hb5
  have HB5 := Lib.hid (below_then HB4.out HB4.out.size hb5)
  have HC5 := Lib.hid (Kd.C_below HC4.out hb5)
  clear p0 t0
  have p0 := blk_cell hr5 0
  simp at p0
  clear p1 t1
  have p1 := blk_cell hr5 1
  simp at p1
  clear p2 t2
  have p2 := blk_cell hr5 2
  simp at p2
  clear p3 t3
  have p3 := blk_cell hr5 3
  simp at p3
  clear p4 t4
  have p4 := blk_cell hr5 4
  simp at p4
  clear p5 t5
  have p5 := blk_cell hr5 5
  simp at p5
  clear p6 t6
  have p6 := blk_cell hr5 6
  simp at p6
  clear p7 t7
  have p7 := blk_cell hr5 7
  simp at p7
  clear p8 t8
  have p8 := blk_cell hr5 8
  simp at p8
  clear p9 t9
  have p9 := blk_cell hr5 9
  simp at p9
  clear HR4 HB4 HC4 HC34 HC94 hb5 hr5
  go_wp2_with fail
  refine (num_is _ _).mono ?_
  rintro e w6 ⟨rfl, rfl⟩
  go_wp2_with fail
  refine (num_is _ _).mono ?_
  rintro e w7 ⟨rfl, rfl⟩
  go_wp2_with fail
  refine (tell_May.calls 0 0 7 (some ⟨w.heap.size, 0, none⟩) 2 [0, 2] 3 0 0 0 0 none 0 [] true w5 HC5.out (by decide) (Kd.C_nil _ _) (by decide) awk_may).mono ?_
  rintro e w8 ⟨rfl, hb8⟩
  have HB8 := Lib.hid (below_then HB5.out HB5.out.size hb8)
  clear hb8 p0 p1 p2 p3 p4 p5 p6 p7 p8 p9 HB5 HC5
  go_wp2_with fail
  refine (tell_May.calls 0 0 0 none 0 [] 0 0 0 0 0 none 0 [] false w8 (Kd.C_nil _ _) (by decide) (Kd.C_nil _ _) (by decide) awk_not).mono ?_
  rintro e w9 ⟨rfl, hb9⟩
  have HB9 := Lib.hid (below_then HB8.out HB8.out.size hb9)
  clear hb9 HB8
  go_wp2_with fail
  go_ret
  exact ⟨rfl, HB9.out⟩
def tollbarlaw23_awake.f : Option Bool := some true
theorem tollbarlaw23_awake.calls (r : Bool) (w : World) (h : tollbarlaw23_awake.f = some r) : Calls Try.prog 26 #[] w fun e w' => e = .returned (.bool r) ∧ Below w.heap.size w w' := by
  injection h with h
  subst h
  exact awake_is w
end Go.Proofs.Yteikgpdjfhdneaa.Man
