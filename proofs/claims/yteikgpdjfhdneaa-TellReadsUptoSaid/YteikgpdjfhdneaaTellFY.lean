/- TellFY: texts of this seat laid together by merge.py: TellFC, TellFD, TellFE, TellFG. -/
import Derived.Test.YteikgpdjfhdneaaTellFX
import Derived.Test.YteikgpdjfhdneaaTellRM
import Derived.Test.YteikgpdjfhdneaaQKm
import Derived.Deep.Cut
set_option linter.unusedVariables false
set_option linter.unusedSimpArgs false
namespace Go.Proofs.Yteikgpdjfhdneaa.Man
open Go.RowKit Go.Proofs.Yteikgpdjfhdneaa.QT Go.Proofs.Yteikgpdjfhdneaa.QK Go.Proofs.YteikgpdjfhdneaaW.PrintWords Go.Proofs.YteikgpdjfhdneaaW.PrintLast Go.Proofs.YteikgpdjfhdneaaW.PrintMore
def tellQ (xs : List Int) : Option Rp :=
  if rd xs 0 = 1 then (if (xs.length : Int) = 2 then some ⟨0, 0, 0, [], 1, rd xs 1, 0, 0, 0, []⟩ else none)
  else if rd xs 0 = 2 then ((grantQ (xs.drop 1)).bind fun p => if p.2 = [] then some p.1 else none)
  else if rd xs 0 = 3 then (if 3 ≤ xs.length ∧ rd xs 2 = (xs.length : Int) - 3 then some ⟨0, 0, rd xs 1, xs.drop 3, 3, 0, 0, 0, 0, []⟩ else none)
  else if rd xs 0 = 4 then (if (xs.length : Int) = 1 then some ⟨0, 0, 0, [], 4, 0, 0, 0, 0, []⟩ else none)
  else if rd xs 0 = 5 then (if (xs.length : Int) = 2 then some ⟨0, 0, 0, [], 5, 0, 0, 0, rd xs 1, []⟩ else none)
  else none
theorem endT {w W W' : World} {r : Rp × Int} {v3 v9 : Value} (tmps : Array Value) (hp : tmps.getD 2 undef = .pointer (some ⟨w.heap.size, 0, none⟩)) (h3 : tmps.getD 3 undef = .int .i64 r.2)
    (hb : W.heap[w.heap.size]? = some (.cells #[.int .i64 0, .int .i64 0, .int .i64 0, .slice none 0 0, .int .i64 0, .int .i64 0, .int .i64 0, .int .i64 0, .int .i64 0, .slice none 0 0] 48 (0, 0))) (H3 : Kd.R (Kd.int .i64) 3 W w.heap.size (fun _ => True) v3 r.1.vs) (H9 : Kd.R k76 76 W w.heap.size (fun k => some k ≠ v3.ownBlock) v9 r.1.ps) (HB : Below w.heap.size w W)
    (hq : W'.heap[w.heap.size]? = some (.cells #[.int .i64 r.1.fr, .int .i64 r.1.to_, .int .i64 r.1.at_, v3, .int .i64 r.1.kind, .int .i64 r.1.code, .int .i64 r.1.id, .int .i64 r.1.rate, .int .i64 r.1.value, v9] 48 (0, 0)) ∧ W.grownBy W' (some w.heap.size)) :
    bodyPost Try.prog Try.f31 (ReadPost w r) .ret { tmps := tmps, defers := [] } W' := by
  refine bodyPost_ret (v := .tuple #[.agg #[.int .i64 r.1.fr, .int .i64 r.1.to_, .int .i64 r.1.at_, v3, .int .i64 r.1.kind, .int .i64 r.1.code, .int .i64 r.1.id, .int .i64 r.1.rate, .int .i64 r.1.value, v9], .int .i64 r.2]) ?_ rfl ⟨v3, v9, rfl, keepR H3 hb hq.2 (by decide), keepR H9 hb hq.2 (by decide), HB.grown hq.2 HB.size (fun k e => by injection e with e; omega)⟩
  have hh := results_ct (P := Try.prog) (fn := Try.f31) (p := 2) (u := 3) (ty := 48) rfl tmps W' w.heap.size 48 #[.int .i64 r.1.fr, .int .i64 r.1.to_, .int .i64 r.1.at_, v3, .int .i64 r.1.kind, .int .i64 r.1.code, .int .i64 r.1.id, .int .i64 r.1.rate, .int .i64 r.1.value, v9] (0, 0) _ hp hq.1 Try.underlying48 rfl (by kernel_rfl)
  rw [h3] at hh
  exact hh
set_option maxHeartbeats 8000000 in
set_option maxRecDepth 100000 in
theorem rt_bad (k : Nat) (a0 : ByteArray) (w : World) (xs : List Int) (e0 : Int) (hl : tollbarref1_List.f k a0 = some (xs, e0)) (he : ¬ e0 = 0) :
    Calls Try.prog 31 #[.string a0] w (ReadPost w (nilRp, 2300)) := by
  have HL := Lib.hid (tollbarref1_List.calls k a0 xs e0 (w.alloc (.cells #[.int .i64 0, .int .i64 0, .int .i64 0, .slice none 0 0, .int .i64 0, .int .i64 0, .int .i64 0, .int .i64 0, .int .i64 0, .slice none 0 0] 48 (0, 0))) hl)
  clear hl
  go_enter Try.func31, Try.ntmps31
  go_wp2_with fail
  refine HL.out.mono ?_
  rintro e w1 ⟨v0, rfl, HX, HB⟩
  obtain ⟨A, c, rfl, hlc, hC, hb0, hB0, hlt0⟩ := armL_ HX HB
  have HB0 := Lib.hid hB0
  have HT1 := Lib.hid hb0
  have HC := Lib.hid hC
  clear HX HB hB0 hb0 hC
  have ht := HT1.out
  have t0 := blk_cell ht 0
  have f0 := blk_frozen ht 0
  simp at t0
  have t1 := blk_cell ht 1
  have f1 := blk_frozen ht 1
  simp at t1
  have t2 := blk_cell ht 2
  have f2 := blk_frozen ht 2
  simp at t2
  have t3 := blk_cell ht 3
  have f3 := blk_frozen ht 3
  simp at t3
  have t4 := blk_cell ht 4
  have f4 := blk_frozen ht 4
  simp at t4
  have t5 := blk_cell ht 5
  have f5 := blk_frozen ht 5
  simp at t5
  have t6 := blk_cell ht 6
  have f6 := blk_frozen ht 6
  simp at t6
  have t7 := blk_cell ht 7
  have f7 := blk_frozen ht 7
  simp at t7
  have t8 := blk_cell ht 8
  have f8 := blk_frozen ht 8
  simp at t8
  have t9 := blk_cell ht 9
  have f9 := blk_frozen ht 9
  simp at t9
  clear ht
  go_wp2
  exact endT (r := (nilRp, 2300)) (v3 := .slice none 0 0) (v9 := .slice none 0 0) _ rfl rfl HT1.out (Kd.R_nil _ _ _ _ _) nilR HB0.out (put10_blk w1 w.heap.size _ _ _ _ _ _ _ _ _ _ _ (.int .i64 0) (.int .i64 0) (.int .i64 0) (.slice none 0 0) (.int .i64 0) (.int .i64 0) (.int .i64 0) (.int .i64 0) (.int .i64 0) (.slice none 0 0) HT1.out)
set_option maxHeartbeats 8000000 in
set_option maxRecDepth 100000 in
theorem rt_nil (k : Nat) (a0 : ByteArray) (w : World) (xs : List Int) (hl : tollbarref1_List.f k a0 = some (xs, 0)) (he : xs.length = 0) :
    Calls Try.prog 31 #[.string a0] w (ReadPost w (nilRp, 2300)) := by
  have HL := Lib.hid (tollbarref1_List.calls k a0 xs 0 (w.alloc (.cells #[.int .i64 0, .int .i64 0, .int .i64 0, .slice none 0 0, .int .i64 0, .int .i64 0, .int .i64 0, .int .i64 0, .int .i64 0, .slice none 0 0] 48 (0, 0))) hl)
  clear hl
  go_enter Try.func31, Try.ntmps31
  go_wp2_with fail
  refine HL.out.mono ?_
  rintro e w1 ⟨v0, rfl, HX, HB⟩
  obtain ⟨A, c, rfl, hlc, hC, hb0, hB0, hlt0⟩ := armL_ HX HB
  have HB0 := Lib.hid hB0
  have HT1 := Lib.hid hb0
  have HC := Lib.hid hC
  clear HX HB hB0 hb0 hC
  rw [he]
  have ht := HT1.out
  have t0 := blk_cell ht 0
  have f0 := blk_frozen ht 0
  simp at t0
  have t1 := blk_cell ht 1
  have f1 := blk_frozen ht 1
  simp at t1
  have t2 := blk_cell ht 2
  have f2 := blk_frozen ht 2
  simp at t2
  have t3 := blk_cell ht 3
  have f3 := blk_frozen ht 3
  simp at t3
  have t4 := blk_cell ht 4
  have f4 := blk_frozen ht 4
  simp at t4
  have t5 := blk_cell ht 5
  have f5 := blk_frozen ht 5
  simp at t5
  have t6 := blk_cell ht 6
  have f6 := blk_frozen ht 6
  simp at t6
  have t7 := blk_cell ht 7
  have f7 := blk_frozen ht 7
  simp at t7
  have t8 := blk_cell ht 8
  have f8 := blk_frozen ht 8
  simp at t8
  have t9 := blk_cell ht 9
  have f9 := blk_frozen ht 9
  simp at t9
  clear ht
  go_wp2
  exact endT (r := (nilRp, 2300)) (v3 := .slice none 0 0) (v9 := .slice none 0 0) _ rfl rfl HT1.out (Kd.R_nil _ _ _ _ _) nilR HB0.out (put10_blk w1 w.heap.size _ _ _ _ _ _ _ _ _ _ _ (.int .i64 0) (.int .i64 0) (.int .i64 0) (.slice none 0 0) (.int .i64 0) (.int .i64 0) (.int .i64 0) (.int .i64 0) (.int .i64 0) (.slice none 0 0) HT1.out)
set_option maxHeartbeats 8000000 in
set_option maxRecDepth 100000 in
theorem rt1_no (k : Nat) (a0 : ByteArray) (w : World) (xs : List Int) (hl : tollbarref1_List.f k a0 = some (xs, 0)) (hb : xs.length ≤ 1099511627776) (hpos : 0 < xs.length) (hk : rd xs 0 = 1) (hn : ¬ (xs.length : Int) = 2) :
    Calls Try.prog 31 #[.string a0] w (ReadPost w (nilRp, 2300)) := by
  have HL := Lib.hid (tollbarref1_List.calls k a0 xs 0 (w.alloc (.cells #[.int .i64 0, .int .i64 0, .int .i64 0, .slice none 0 0, .int .i64 0, .int .i64 0, .int .i64 0, .int .i64 0, .int .i64 0, .slice none 0 0] 48 (0, 0))) hl)
  clear hl
  go_enter Try.func31, Try.ntmps31
  go_wp2_with fail
  refine HL.out.mono ?_
  rintro e w1 ⟨v0, rfl, HX, HB⟩
  obtain ⟨A, c, rfl, hlc, hC, hb0, hB0, hlt0⟩ := armL_ HX HB
  have HB0 := Lib.hid hB0
  have HT1 := Lib.hid hb0
  have HC := Lib.hid hC
  clear HX HB hB0 hb0 hC
  obtain ⟨ad, e0, x0⟩ := Kd.at_int HC.out 0 (by omega) (by omega)
  subst e0
  have x0 : w1.cell? ad = some (.int .i64 (rd xs 0)) := by simpa [Addr.add] using x0
  have hadl : ad.block < w1.heap.size := World.block_lt_of_cell? _ _ x0
  rw [hk] at x0
  have HT2 := Lib.hid (blk_alloc HT1.out (.cells #[.int .i64 0, .int .i64 0, .int .i64 0, .slice none 0 0, .int .i64 1, .int .i64 0, .int .i64 0, .int .i64 0, .int .i64 0, .slice none 0 0] 48 (0, 0)))
  have HB2 := Lib.hid (HB0.out.alloc HB0.out.size (.cells #[.int .i64 0, .int .i64 0, .int .i64 0, .slice none 0 0, .int .i64 1, .int .i64 0, .int .i64 0, .int .i64 0, .int .i64 0, .slice none 0 0] 48 (0, 0)))
  go_upto_region 24 with fail
  generalize (w1.alloc (.cells #[.int .i64 0, .int .i64 0, .int .i64 0, .slice none 0 0, .int .i64 1, .int .i64 0, .int .i64 0, .int .i64 0, .int .i64 0, .slice none 0 0] 48 (0, 0))) = W2 at HT2 HB2 ⊢
  have ht := HT2.out
  have t0 := blk_cell ht 0
  have f0 := blk_frozen ht 0
  simp at t0
  have t1 := blk_cell ht 1
  have f1 := blk_frozen ht 1
  simp at t1
  have t2 := blk_cell ht 2
  have f2 := blk_frozen ht 2
  simp at t2
  have t3 := blk_cell ht 3
  have f3 := blk_frozen ht 3
  simp at t3
  have t4 := blk_cell ht 4
  have f4 := blk_frozen ht 4
  simp at t4
  have t5 := blk_cell ht 5
  have f5 := blk_frozen ht 5
  simp at t5
  have t6 := blk_cell ht 6
  have f6 := blk_frozen ht 6
  simp at t6
  have t7 := blk_cell ht 7
  have f7 := blk_frozen ht 7
  simp at t7
  have t8 := blk_cell ht 8
  have f8 := blk_frozen ht 8
  simp at t8
  have t9 := blk_cell ht 9
  have f9 := blk_frozen ht 9
  simp at t9
  clear ht
  go_wp2
  exact endT (r := (nilRp, 2300)) (v3 := .slice none 0 0) (v9 := .slice none 0 0) _ rfl rfl HT2.out (Kd.R_nil _ _ _ _ _) nilR HB2.out (put10_blk W2 w.heap.size _ _ _ _ _ _ _ _ _ _ _ (.int .i64 0) (.int .i64 0) (.int .i64 0) (.slice none 0 0) (.int .i64 0) (.int .i64 0) (.int .i64 0) (.int .i64 0) (.int .i64 0) (.slice none 0 0) HT2.out)
set_option maxHeartbeats 8000000 in
set_option maxRecDepth 100000 in
theorem rt1_false (k : Nat) (a0 : ByteArray) (w : World) (xs : List Int) (hl : tollbarref1_List.f k a0 = some (xs, 0)) (hb : xs.length ≤ 1099511627776) (hpos : 0 < xs.length) (hk : rd xs 0 = 1) (hn : (xs.length : Int) = 2) (hm : tollbarref22_ReplyMay.f k 0 0 0 [] 1 (rd xs 1) 0 0 0 [] = some false) :
    Calls Try.prog 31 #[.string a0] w (ReadPost w (nilRp, 2300)) := by
  generalize hv : rd xs 1 = v at hm ⊢
  have HL := Lib.hid (tollbarref1_List.calls k a0 xs 0 (w.alloc (.cells #[.int .i64 0, .int .i64 0, .int .i64 0, .slice none 0 0, .int .i64 0, .int .i64 0, .int .i64 0, .int .i64 0, .int .i64 0, .slice none 0 0] 48 (0, 0))) hl)
  clear hl
  go_enter Try.func31, Try.ntmps31
  go_wp2_with fail
  refine HL.out.mono ?_
  rintro e w1 ⟨v0, rfl, HX, HB⟩
  obtain ⟨A, c, rfl, hlc, hC, hb0, hB0, hlt0⟩ := armL_ HX HB
  have HB0 := Lib.hid hB0
  have HT1 := Lib.hid hb0
  have HC := Lib.hid hC
  clear HX HB hB0 hb0 hC
  obtain ⟨ad, e0, x0⟩ := Kd.at_int HC.out 0 (by omega) (by omega)
  subst e0
  have x0 : w1.cell? ad = some (.int .i64 (rd xs 0)) := by simpa [Addr.add] using x0
  have x1 : w1.cell? ⟨ad.block, ad.off + 1, none⟩ = some (.int .i64 (rd xs 1)) := by
    obtain ⟨ad', e', x'⟩ := Kd.at_int HC.out 1 (by omega) (by omega)
    obtain rfl : ad = ad' := by injection e'
    simpa [Addr.add] using x'
  have hadl : ad.block < w1.heap.size := World.block_lt_of_cell? _ _ x0
  rw [hk] at x0
  rw [hv] at x1
  have HT2 := Lib.hid (blk_alloc HT1.out (.cells #[.int .i64 0, .int .i64 0, .int .i64 0, .slice none 0 0, .int .i64 1, .int .i64 v, .int .i64 0, .int .i64 0, .int .i64 0, .slice none 0 0] 48 (0, 0)))
  have HX2 := Lib.hid (blk_new w1 (.cells #[.int .i64 0, .int .i64 0, .int .i64 0, .slice none 0 0, .int .i64 1, .int .i64 v, .int .i64 0, .int .i64 0, .int .i64 0, .slice none 0 0] 48 (0, 0)))
  have HB2 := Lib.hid (HB0.out.alloc HB0.out.size (.cells #[.int .i64 0, .int .i64 0, .int .i64 0, .slice none 0 0, .int .i64 1, .int .i64 v, .int .i64 0, .int .i64 0, .int .i64 0, .slice none 0 0] 48 (0, 0)))
  go_wp2_with fail
  refine (tollbarref22_ReplyMay.calls k 0 0 0 none 0 [] 1 v 0 0 0 none 0 [] false _ (Kd.C_nil _ _) (Nat.le_refl _) (Kd.C_nil _ _) (Nat.le_refl _) hm).mono ?_
  rintro e w5 ⟨rfl, hb5⟩
  have HT5 := Lib.hid (blk_below HT2.out hb5)
  have HB5 := Lib.hid (below_then HB2.out HB2.out.size hb5)
  clear hb5
  have ht := HT5.out
  have t0 := blk_cell ht 0
  have f0 := blk_frozen ht 0
  simp at t0
  have t1 := blk_cell ht 1
  have f1 := blk_frozen ht 1
  simp at t1
  have t2 := blk_cell ht 2
  have f2 := blk_frozen ht 2
  simp at t2
  have t3 := blk_cell ht 3
  have f3 := blk_frozen ht 3
  simp at t3
  have t4 := blk_cell ht 4
  have f4 := blk_frozen ht 4
  simp at t4
  have t5 := blk_cell ht 5
  have f5 := blk_frozen ht 5
  simp at t5
  have t6 := blk_cell ht 6
  have f6 := blk_frozen ht 6
  simp at t6
  have t7 := blk_cell ht 7
  have f7 := blk_frozen ht 7
  simp at t7
  have t8 := blk_cell ht 8
  have f8 := blk_frozen ht 8
  simp at t8
  have t9 := blk_cell ht 9
  have f9 := blk_frozen ht 9
  simp at t9
  clear ht
  go_wp2
  exact endT (r := (nilRp, 2300)) (v3 := .slice none 0 0) (v9 := .slice none 0 0) _ rfl rfl HT5.out (Kd.R_nil _ _ _ _ _) nilR HB5.out (put10_blk w5 w.heap.size _ _ _ _ _ _ _ _ _ _ _ (.int .i64 0) (.int .i64 0) (.int .i64 0) (.slice none 0 0) (.int .i64 0) (.int .i64 0) (.int .i64 0) (.int .i64 0) (.int .i64 0) (.slice none 0 0) HT5.out)
set_option maxHeartbeats 8000000 in
set_option maxRecDepth 100000 in
theorem rt1_true (k : Nat) (a0 : ByteArray) (w : World) (xs : List Int) (hl : tollbarref1_List.f k a0 = some (xs, 0)) (hb : xs.length ≤ 1099511627776) (hpos : 0 < xs.length) (hk : rd xs 0 = 1) (hn : (xs.length : Int) = 2) (hm : tollbarref22_ReplyMay.f k 0 0 0 [] 1 (rd xs 1) 0 0 0 [] = some true) :
    Calls Try.prog 31 #[.string a0] w (ReadPost w (⟨0, 0, 0, [], 1, rd xs 1, 0, 0, 0, []⟩, 0)) := by
  generalize hv : rd xs 1 = v at hm ⊢
  have HL := Lib.hid (tollbarref1_List.calls k a0 xs 0 (w.alloc (.cells #[.int .i64 0, .int .i64 0, .int .i64 0, .slice none 0 0, .int .i64 0, .int .i64 0, .int .i64 0, .int .i64 0, .int .i64 0, .slice none 0 0] 48 (0, 0))) hl)
  clear hl
  go_enter Try.func31, Try.ntmps31
  go_wp2_with fail
  refine HL.out.mono ?_
  rintro e w1 ⟨v0, rfl, HX, HB⟩
  obtain ⟨A, c, rfl, hlc, hC, hb0, hB0, hlt0⟩ := armL_ HX HB
  have HB0 := Lib.hid hB0
  have HT1 := Lib.hid hb0
  have HC := Lib.hid hC
  clear HX HB hB0 hb0 hC
  obtain ⟨ad, e0, x0⟩ := Kd.at_int HC.out 0 (by omega) (by omega)
  subst e0
  have x0 : w1.cell? ad = some (.int .i64 (rd xs 0)) := by simpa [Addr.add] using x0
  have x1 : w1.cell? ⟨ad.block, ad.off + 1, none⟩ = some (.int .i64 (rd xs 1)) := by
    obtain ⟨ad', e', x'⟩ := Kd.at_int HC.out 1 (by omega) (by omega)
    obtain rfl : ad = ad' := by injection e'
    simpa [Addr.add] using x'
  have hadl : ad.block < w1.heap.size := World.block_lt_of_cell? _ _ x0
  rw [hk] at x0
  rw [hv] at x1
  have HT2 := Lib.hid (blk_alloc HT1.out (.cells #[.int .i64 0, .int .i64 0, .int .i64 0, .slice none 0 0, .int .i64 1, .int .i64 v, .int .i64 0, .int .i64 0, .int .i64 0, .slice none 0 0] 48 (0, 0)))
  have HX2 := Lib.hid (blk_new w1 (.cells #[.int .i64 0, .int .i64 0, .int .i64 0, .slice none 0 0, .int .i64 1, .int .i64 v, .int .i64 0, .int .i64 0, .int .i64 0, .slice none 0 0] 48 (0, 0)))
  have HB2 := Lib.hid (HB0.out.alloc HB0.out.size (.cells #[.int .i64 0, .int .i64 0, .int .i64 0, .slice none 0 0, .int .i64 1, .int .i64 v, .int .i64 0, .int .i64 0, .int .i64 0, .slice none 0 0] 48 (0, 0)))
  go_wp2_with fail
  refine (tollbarref22_ReplyMay.calls k 0 0 0 none 0 [] 1 v 0 0 0 none 0 [] true _ (Kd.C_nil _ _) (Nat.le_refl _) (Kd.C_nil _ _) (Nat.le_refl _) hm).mono ?_
  rintro e w5 ⟨rfl, hb5⟩
  have HT5 := Lib.hid (blk_below HT2.out hb5)
  have HB5 := Lib.hid (below_then HB2.out HB2.out.size hb5)
  have HX5 := Lib.hid (blk_below HX2.out hb5)
  clear hb5
  have ht := HX5.out
  have p0 := blk_cell ht 0
  simp at p0
  have p1 := blk_cell ht 1
  simp at p1
  have p2 := blk_cell ht 2
  simp at p2
  have p3 := blk_cell ht 3
  simp at p3
  have p4 := blk_cell ht 4
  simp at p4
  have p5 := blk_cell ht 5
  simp at p5
  have p6 := blk_cell ht 6
  simp at p6
  have p7 := blk_cell ht 7
  simp at p7
  have p8 := blk_cell ht 8
  simp at p8
  have p9 := blk_cell ht 9
  simp at p9
  clear ht
  have ht := HT5.out
  have t0 := blk_cell ht 0
  have f0 := blk_frozen ht 0
  simp at t0
  have t1 := blk_cell ht 1
  have f1 := blk_frozen ht 1
  simp at t1
  have t2 := blk_cell ht 2
  have f2 := blk_frozen ht 2
  simp at t2
  have t3 := blk_cell ht 3
  have f3 := blk_frozen ht 3
  simp at t3
  have t4 := blk_cell ht 4
  have f4 := blk_frozen ht 4
  simp at t4
  have t5 := blk_cell ht 5
  have f5 := blk_frozen ht 5
  simp at t5
  have t6 := blk_cell ht 6
  have f6 := blk_frozen ht 6
  simp at t6
  have t7 := blk_cell ht 7
  have f7 := blk_frozen ht 7
  simp at t7
  have t8 := blk_cell ht 8
  have f8 := blk_frozen ht 8
  simp at t8
  have t9 := blk_cell ht 9
  have f9 := blk_frozen ht 9
  simp at t9
  clear ht
  go_wp2
  exact endT (r := (⟨0, 0, 0, [], 1, v, 0, 0, 0, []⟩, 0)) _ rfl rfl HT5.out (Kd.R_nil _ _ _ _ _) (nilR) HB5.out (put10_blk w5 w.heap.size _ _ _ _ _ _ _ _ _ _ _ (.int .i64 0) (.int .i64 0) (.int .i64 0) (.slice none 0 0) (.int .i64 1) (.int .i64 v) (.int .i64 0) (.int .i64 0) (.int .i64 0) (.slice none 0 0) HT5.out)
set_option maxHeartbeats 8000000 in
set_option maxRecDepth 100000 in
theorem rt4_no (k : Nat) (a0 : ByteArray) (w : World) (xs : List Int) (hl : tollbarref1_List.f k a0 = some (xs, 0)) (hb : xs.length ≤ 1099511627776) (hpos : 0 < xs.length) (hk : rd xs 0 = 4) (hn : ¬ (xs.length : Int) = 1) :
    Calls Try.prog 31 #[.string a0] w (ReadPost w (nilRp, 2300)) := by
  have HL := Lib.hid (tollbarref1_List.calls k a0 xs 0 (w.alloc (.cells #[.int .i64 0, .int .i64 0, .int .i64 0, .slice none 0 0, .int .i64 0, .int .i64 0, .int .i64 0, .int .i64 0, .int .i64 0, .slice none 0 0] 48 (0, 0))) hl)
  clear hl
  go_enter Try.func31, Try.ntmps31
  go_wp2_with fail
  refine HL.out.mono ?_
  rintro e w1 ⟨v0, rfl, HX, HB⟩
  obtain ⟨A, c, rfl, hlc, hC, hb0, hB0, hlt0⟩ := armL_ HX HB
  have HB0 := Lib.hid hB0
  have HT1 := Lib.hid hb0
  have HC := Lib.hid hC
  clear HX HB hB0 hb0 hC
  obtain ⟨ad, e0, x0⟩ := Kd.at_int HC.out 0 (by omega) (by omega)
  subst e0
  have x0 : w1.cell? ad = some (.int .i64 (rd xs 0)) := by simpa [Addr.add] using x0
  have hadl : ad.block < w1.heap.size := World.block_lt_of_cell? _ _ x0
  rw [hk] at x0
  have HT2 := Lib.hid (blk_alloc HT1.out (.cells #[.int .i64 0, .int .i64 0, .int .i64 0, .slice none 0 0, .int .i64 4, .int .i64 0, .int .i64 0, .int .i64 0, .int .i64 0, .slice none 0 0] 48 (0, 0)))
  have HB2 := Lib.hid (HB0.out.alloc HB0.out.size (.cells #[.int .i64 0, .int .i64 0, .int .i64 0, .slice none 0 0, .int .i64 4, .int .i64 0, .int .i64 0, .int .i64 0, .int .i64 0, .slice none 0 0] 48 (0, 0)))
  go_upto_region 24 with fail
  generalize (w1.alloc (.cells #[.int .i64 0, .int .i64 0, .int .i64 0, .slice none 0 0, .int .i64 4, .int .i64 0, .int .i64 0, .int .i64 0, .int .i64 0, .slice none 0 0] 48 (0, 0))) = W2 at HT2 HB2 ⊢
  have ht := HT2.out
  have t0 := blk_cell ht 0
  have f0 := blk_frozen ht 0
  simp at t0
  have t1 := blk_cell ht 1
  have f1 := blk_frozen ht 1
  simp at t1
  have t2 := blk_cell ht 2
  have f2 := blk_frozen ht 2
  simp at t2
  have t3 := blk_cell ht 3
  have f3 := blk_frozen ht 3
  simp at t3
  have t4 := blk_cell ht 4
  have f4 := blk_frozen ht 4
  simp at t4
  have t5 := blk_cell ht 5
  have f5 := blk_frozen ht 5
  simp at t5
  have t6 := blk_cell ht 6
  have f6 := blk_frozen ht 6
  simp at t6
  have t7 := blk_cell ht 7
  have f7 := blk_frozen ht 7
  simp at t7
  have t8 := blk_cell ht 8
  have f8 := blk_frozen ht 8
  simp at t8
  have t9 := blk_cell ht 9
  have f9 := blk_frozen ht 9
  simp at t9
  clear ht
  go_wp2
  exact endT (r := (nilRp, 2300)) (v3 := .slice none 0 0) (v9 := .slice none 0 0) _ rfl rfl HT2.out (Kd.R_nil _ _ _ _ _) nilR HB2.out (put10_blk W2 w.heap.size _ _ _ _ _ _ _ _ _ _ _ (.int .i64 0) (.int .i64 0) (.int .i64 0) (.slice none 0 0) (.int .i64 0) (.int .i64 0) (.int .i64 0) (.int .i64 0) (.int .i64 0) (.slice none 0 0) HT2.out)
set_option maxHeartbeats 8000000 in
set_option maxRecDepth 100000 in
theorem rt4_false (k : Nat) (a0 : ByteArray) (w : World) (xs : List Int) (hl : tollbarref1_List.f k a0 = some (xs, 0)) (hb : xs.length ≤ 1099511627776) (hpos : 0 < xs.length) (hk : rd xs 0 = 4) (hn : (xs.length : Int) = 1) (hm : tollbarref22_ReplyMay.f k 0 0 0 [] 4 0 0 0 0 [] = some false) :
    Calls Try.prog 31 #[.string a0] w (ReadPost w (nilRp, 2300)) := by
  have HL := Lib.hid (tollbarref1_List.calls k a0 xs 0 (w.alloc (.cells #[.int .i64 0, .int .i64 0, .int .i64 0, .slice none 0 0, .int .i64 0, .int .i64 0, .int .i64 0, .int .i64 0, .int .i64 0, .slice none 0 0] 48 (0, 0))) hl)
  clear hl
  go_enter Try.func31, Try.ntmps31
  go_wp2_with fail
  refine HL.out.mono ?_
  rintro e w1 ⟨v0, rfl, HX, HB⟩
  obtain ⟨A, c, rfl, hlc, hC, hb0, hB0, hlt0⟩ := armL_ HX HB
  have HB0 := Lib.hid hB0
  have HT1 := Lib.hid hb0
  have HC := Lib.hid hC
  clear HX HB hB0 hb0 hC
  obtain ⟨ad, e0, x0⟩ := Kd.at_int HC.out 0 (by omega) (by omega)
  subst e0
  have x0 : w1.cell? ad = some (.int .i64 (rd xs 0)) := by simpa [Addr.add] using x0
  have hadl : ad.block < w1.heap.size := World.block_lt_of_cell? _ _ x0
  rw [hk] at x0
  have HT2 := Lib.hid (blk_alloc HT1.out (.cells #[.int .i64 0, .int .i64 0, .int .i64 0, .slice none 0 0, .int .i64 4, .int .i64 0, .int .i64 0, .int .i64 0, .int .i64 0, .slice none 0 0] 48 (0, 0)))
  have HX2 := Lib.hid (blk_new w1 (.cells #[.int .i64 0, .int .i64 0, .int .i64 0, .slice none 0 0, .int .i64 4, .int .i64 0, .int .i64 0, .int .i64 0, .int .i64 0, .slice none 0 0] 48 (0, 0)))
  have HB2 := Lib.hid (HB0.out.alloc HB0.out.size (.cells #[.int .i64 0, .int .i64 0, .int .i64 0, .slice none 0 0, .int .i64 4, .int .i64 0, .int .i64 0, .int .i64 0, .int .i64 0, .slice none 0 0] 48 (0, 0)))
  go_wp2_with fail
  refine (tollbarref22_ReplyMay.calls k 0 0 0 none 0 [] 4 0 0 0 0 none 0 [] false _ (Kd.C_nil _ _) (Nat.le_refl _) (Kd.C_nil _ _) (Nat.le_refl _) hm).mono ?_
  rintro e w5 ⟨rfl, hb5⟩
  have HT5 := Lib.hid (blk_below HT2.out hb5)
  have HB5 := Lib.hid (below_then HB2.out HB2.out.size hb5)
  clear hb5
  have ht := HT5.out
  have t0 := blk_cell ht 0
  have f0 := blk_frozen ht 0
  simp at t0
  have t1 := blk_cell ht 1
  have f1 := blk_frozen ht 1
  simp at t1
  have t2 := blk_cell ht 2
  have f2 := blk_frozen ht 2
  simp at t2
  have t3 := blk_cell ht 3
  have f3 := blk_frozen ht 3
  simp at t3
  have t4 := blk_cell ht 4
  have f4 := blk_frozen ht 4
  simp at t4
  have t5 := blk_cell ht 5
  have f5 := blk_frozen ht 5
  simp at t5
  have t6 := blk_cell ht 6
  have f6 := blk_frozen ht 6
  simp at t6
  have t7 := blk_cell ht 7
  have f7 := blk_frozen ht 7
  simp at t7
  have t8 := blk_cell ht 8
  have f8 := blk_frozen ht 8
  simp at t8
  have t9 := blk_cell ht 9
  have f9 := blk_frozen ht 9
  simp at t9
  clear ht
  go_wp2
  exact endT (r := (nilRp, 2300)) (v3 := .slice none 0 0) (v9 := .slice none 0 0) _ rfl rfl HT5.out (Kd.R_nil _ _ _ _ _) nilR HB5.out (put10_blk w5 w.heap.size _ _ _ _ _ _ _ _ _ _ _ (.int .i64 0) (.int .i64 0) (.int .i64 0) (.slice none 0 0) (.int .i64 0) (.int .i64 0) (.int .i64 0) (.int .i64 0) (.int .i64 0) (.slice none 0 0) HT5.out)
set_option maxHeartbeats 8000000 in
set_option maxRecDepth 100000 in
theorem rt4_true (k : Nat) (a0 : ByteArray) (w : World) (xs : List Int) (hl : tollbarref1_List.f k a0 = some (xs, 0)) (hb : xs.length ≤ 1099511627776) (hpos : 0 < xs.length) (hk : rd xs 0 = 4) (hn : (xs.length : Int) = 1) (hm : tollbarref22_ReplyMay.f k 0 0 0 [] 4 0 0 0 0 [] = some true) :
    Calls Try.prog 31 #[.string a0] w (ReadPost w (⟨0, 0, 0, [], 4, 0, 0, 0, 0, []⟩, 0)) := by
  have HL := Lib.hid (tollbarref1_List.calls k a0 xs 0 (w.alloc (.cells #[.int .i64 0, .int .i64 0, .int .i64 0, .slice none 0 0, .int .i64 0, .int .i64 0, .int .i64 0, .int .i64 0, .int .i64 0, .slice none 0 0] 48 (0, 0))) hl)
  clear hl
  go_enter Try.func31, Try.ntmps31
  go_wp2_with fail
  refine HL.out.mono ?_
  rintro e w1 ⟨v0, rfl, HX, HB⟩
  obtain ⟨A, c, rfl, hlc, hC, hb0, hB0, hlt0⟩ := armL_ HX HB
  have HB0 := Lib.hid hB0
  have HT1 := Lib.hid hb0
  have HC := Lib.hid hC
  clear HX HB hB0 hb0 hC
  obtain ⟨ad, e0, x0⟩ := Kd.at_int HC.out 0 (by omega) (by omega)
  subst e0
  have x0 : w1.cell? ad = some (.int .i64 (rd xs 0)) := by simpa [Addr.add] using x0
  have hadl : ad.block < w1.heap.size := World.block_lt_of_cell? _ _ x0
  rw [hk] at x0
  have HT2 := Lib.hid (blk_alloc HT1.out (.cells #[.int .i64 0, .int .i64 0, .int .i64 0, .slice none 0 0, .int .i64 4, .int .i64 0, .int .i64 0, .int .i64 0, .int .i64 0, .slice none 0 0] 48 (0, 0)))
  have HX2 := Lib.hid (blk_new w1 (.cells #[.int .i64 0, .int .i64 0, .int .i64 0, .slice none 0 0, .int .i64 4, .int .i64 0, .int .i64 0, .int .i64 0, .int .i64 0, .slice none 0 0] 48 (0, 0)))
  have HB2 := Lib.hid (HB0.out.alloc HB0.out.size (.cells #[.int .i64 0, .int .i64 0, .int .i64 0, .slice none 0 0, .int .i64 4, .int .i64 0, .int .i64 0, .int .i64 0, .int .i64 0, .slice none 0 0] 48 (0, 0)))
  go_wp2_with fail
  refine (tollbarref22_ReplyMay.calls k 0 0 0 none 0 [] 4 0 0 0 0 none 0 [] true _ (Kd.C_nil _ _) (Nat.le_refl _) (Kd.C_nil _ _) (Nat.le_refl _) hm).mono ?_
  rintro e w5 ⟨rfl, hb5⟩
  have HT5 := Lib.hid (blk_below HT2.out hb5)
  have HB5 := Lib.hid (below_then HB2.out HB2.out.size hb5)
  have HX5 := Lib.hid (blk_below HX2.out hb5)
  clear hb5
  have ht := HX5.out
  have p0 := blk_cell ht 0
  simp at p0
  have p1 := blk_cell ht 1
  simp at p1
  have p2 := blk_cell ht 2
  simp at p2
  have p3 := blk_cell ht 3
  simp at p3
  have p4 := blk_cell ht 4
  simp at p4
  have p5 := blk_cell ht 5
  simp at p5
  have p6 := blk_cell ht 6
  simp at p6
  have p7 := blk_cell ht 7
  simp at p7
  have p8 := blk_cell ht 8
  simp at p8
  have p9 := blk_cell ht 9
  simp at p9
  clear ht
  have ht := HT5.out
  have t0 := blk_cell ht 0
  have f0 := blk_frozen ht 0
  simp at t0
  have t1 := blk_cell ht 1
  have f1 := blk_frozen ht 1
  simp at t1
  have t2 := blk_cell ht 2
  have f2 := blk_frozen ht 2
  simp at t2
  have t3 := blk_cell ht 3
  have f3 := blk_frozen ht 3
  simp at t3
  have t4 := blk_cell ht 4
  have f4 := blk_frozen ht 4
  simp at t4
  have t5 := blk_cell ht 5
  have f5 := blk_frozen ht 5
  simp at t5
  have t6 := blk_cell ht 6
  have f6 := blk_frozen ht 6
  simp at t6
  have t7 := blk_cell ht 7
  have f7 := blk_frozen ht 7
  simp at t7
  have t8 := blk_cell ht 8
  have f8 := blk_frozen ht 8
  simp at t8
  have t9 := blk_cell ht 9
  have f9 := blk_frozen ht 9
  simp at t9
  clear ht
  go_wp2
  exact endT (r := (⟨0, 0, 0, [], 4, 0, 0, 0, 0, []⟩, 0)) _ rfl rfl HT5.out (Kd.R_nil _ _ _ _ _) (nilR) HB5.out (put10_blk w5 w.heap.size _ _ _ _ _ _ _ _ _ _ _ (.int .i64 0) (.int .i64 0) (.int .i64 0) (.slice none 0 0) (.int .i64 4) (.int .i64 0) (.int .i64 0) (.int .i64 0) (.int .i64 0) (.slice none 0 0) HT5.out)
set_option maxHeartbeats 8000000 in
set_option maxRecDepth 100000 in
theorem rt5_no (k : Nat) (a0 : ByteArray) (w : World) (xs : List Int) (hl : tollbarref1_List.f k a0 = some (xs, 0)) (hb : xs.length ≤ 1099511627776) (hpos : 0 < xs.length) (hk : rd xs 0 = 5) (hn : ¬ (xs.length : Int) = 2) :
    Calls Try.prog 31 #[.string a0] w (ReadPost w (nilRp, 2300)) := by
  have HL := Lib.hid (tollbarref1_List.calls k a0 xs 0 (w.alloc (.cells #[.int .i64 0, .int .i64 0, .int .i64 0, .slice none 0 0, .int .i64 0, .int .i64 0, .int .i64 0, .int .i64 0, .int .i64 0, .slice none 0 0] 48 (0, 0))) hl)
  clear hl
  go_enter Try.func31, Try.ntmps31
  go_wp2_with fail
  refine HL.out.mono ?_
  rintro e w1 ⟨v0, rfl, HX, HB⟩
  obtain ⟨A, c, rfl, hlc, hC, hb0, hB0, hlt0⟩ := armL_ HX HB
  have HB0 := Lib.hid hB0
  have HT1 := Lib.hid hb0
  have HC := Lib.hid hC
  clear HX HB hB0 hb0 hC
  obtain ⟨ad, e0, x0⟩ := Kd.at_int HC.out 0 (by omega) (by omega)
  subst e0
  have x0 : w1.cell? ad = some (.int .i64 (rd xs 0)) := by simpa [Addr.add] using x0
  have hadl : ad.block < w1.heap.size := World.block_lt_of_cell? _ _ x0
  rw [hk] at x0
  have HT2 := Lib.hid (blk_alloc HT1.out (.cells #[.int .i64 0, .int .i64 0, .int .i64 0, .slice none 0 0, .int .i64 5, .int .i64 0, .int .i64 0, .int .i64 0, .int .i64 0, .slice none 0 0] 48 (0, 0)))
  have HB2 := Lib.hid (HB0.out.alloc HB0.out.size (.cells #[.int .i64 0, .int .i64 0, .int .i64 0, .slice none 0 0, .int .i64 5, .int .i64 0, .int .i64 0, .int .i64 0, .int .i64 0, .slice none 0 0] 48 (0, 0)))
  go_upto_region 24 with fail
  generalize (w1.alloc (.cells #[.int .i64 0, .int .i64 0, .int .i64 0, .slice none 0 0, .int .i64 5, .int .i64 0, .int .i64 0, .int .i64 0, .int .i64 0, .slice none 0 0] 48 (0, 0))) = W2 at HT2 HB2 ⊢
  have ht := HT2.out
  have t0 := blk_cell ht 0
  have f0 := blk_frozen ht 0
  simp at t0
  have t1 := blk_cell ht 1
  have f1 := blk_frozen ht 1
  simp at t1
  have t2 := blk_cell ht 2
  have f2 := blk_frozen ht 2
  simp at t2
  have t3 := blk_cell ht 3
  have f3 := blk_frozen ht 3
  simp at t3
  have t4 := blk_cell ht 4
  have f4 := blk_frozen ht 4
  simp at t4
  have t5 := blk_cell ht 5
  have f5 := blk_frozen ht 5
  simp at t5
  have t6 := blk_cell ht 6
  have f6 := blk_frozen ht 6
  simp at t6
  have t7 := blk_cell ht 7
  have f7 := blk_frozen ht 7
  simp at t7
  have t8 := blk_cell ht 8
  have f8 := blk_frozen ht 8
  simp at t8
  have t9 := blk_cell ht 9
  have f9 := blk_frozen ht 9
  simp at t9
  clear ht
  go_wp2
  exact endT (r := (nilRp, 2300)) (v3 := .slice none 0 0) (v9 := .slice none 0 0) _ rfl rfl HT2.out (Kd.R_nil _ _ _ _ _) nilR HB2.out (put10_blk W2 w.heap.size _ _ _ _ _ _ _ _ _ _ _ (.int .i64 0) (.int .i64 0) (.int .i64 0) (.slice none 0 0) (.int .i64 0) (.int .i64 0) (.int .i64 0) (.int .i64 0) (.int .i64 0) (.slice none 0 0) HT2.out)
set_option maxHeartbeats 8000000 in
set_option maxRecDepth 100000 in
theorem rt5_false (k : Nat) (a0 : ByteArray) (w : World) (xs : List Int) (hl : tollbarref1_List.f k a0 = some (xs, 0)) (hb : xs.length ≤ 1099511627776) (hpos : 0 < xs.length) (hk : rd xs 0 = 5) (hn : (xs.length : Int) = 2) (hm : tollbarref22_ReplyMay.f k 0 0 0 [] 5 0 0 0 (rd xs 1) [] = some false) :
    Calls Try.prog 31 #[.string a0] w (ReadPost w (nilRp, 2300)) := by
  generalize hv : rd xs 1 = v at hm ⊢
  have HL := Lib.hid (tollbarref1_List.calls k a0 xs 0 (w.alloc (.cells #[.int .i64 0, .int .i64 0, .int .i64 0, .slice none 0 0, .int .i64 0, .int .i64 0, .int .i64 0, .int .i64 0, .int .i64 0, .slice none 0 0] 48 (0, 0))) hl)
  clear hl
  go_enter Try.func31, Try.ntmps31
  go_wp2_with fail
  refine HL.out.mono ?_
  rintro e w1 ⟨v0, rfl, HX, HB⟩
  obtain ⟨A, c, rfl, hlc, hC, hb0, hB0, hlt0⟩ := armL_ HX HB
  have HB0 := Lib.hid hB0
  have HT1 := Lib.hid hb0
  have HC := Lib.hid hC
  clear HX HB hB0 hb0 hC
  obtain ⟨ad, e0, x0⟩ := Kd.at_int HC.out 0 (by omega) (by omega)
  subst e0
  have x0 : w1.cell? ad = some (.int .i64 (rd xs 0)) := by simpa [Addr.add] using x0
  have x1 : w1.cell? ⟨ad.block, ad.off + 1, none⟩ = some (.int .i64 (rd xs 1)) := by
    obtain ⟨ad', e', x'⟩ := Kd.at_int HC.out 1 (by omega) (by omega)
    obtain rfl : ad = ad' := by injection e'
    simpa [Addr.add] using x'
  have hadl : ad.block < w1.heap.size := World.block_lt_of_cell? _ _ x0
  rw [hk] at x0
  rw [hv] at x1
  have HT2 := Lib.hid (blk_alloc HT1.out (.cells #[.int .i64 0, .int .i64 0, .int .i64 0, .slice none 0 0, .int .i64 5, .int .i64 0, .int .i64 0, .int .i64 0, .int .i64 v, .slice none 0 0] 48 (0, 0)))
  have HX2 := Lib.hid (blk_new w1 (.cells #[.int .i64 0, .int .i64 0, .int .i64 0, .slice none 0 0, .int .i64 5, .int .i64 0, .int .i64 0, .int .i64 0, .int .i64 v, .slice none 0 0] 48 (0, 0)))
  have HB2 := Lib.hid (HB0.out.alloc HB0.out.size (.cells #[.int .i64 0, .int .i64 0, .int .i64 0, .slice none 0 0, .int .i64 5, .int .i64 0, .int .i64 0, .int .i64 0, .int .i64 v, .slice none 0 0] 48 (0, 0)))
  go_wp2_with fail
  refine (tollbarref22_ReplyMay.calls k 0 0 0 none 0 [] 5 0 0 0 v none 0 [] false _ (Kd.C_nil _ _) (Nat.le_refl _) (Kd.C_nil _ _) (Nat.le_refl _) hm).mono ?_
  rintro e w5 ⟨rfl, hb5⟩
  have HT5 := Lib.hid (blk_below HT2.out hb5)
  have HB5 := Lib.hid (below_then HB2.out HB2.out.size hb5)
  clear hb5
  have ht := HT5.out
  have t0 := blk_cell ht 0
  have f0 := blk_frozen ht 0
  simp at t0
  have t1 := blk_cell ht 1
  have f1 := blk_frozen ht 1
  simp at t1
  have t2 := blk_cell ht 2
  have f2 := blk_frozen ht 2
  simp at t2
  have t3 := blk_cell ht 3
  have f3 := blk_frozen ht 3
  simp at t3
  have t4 := blk_cell ht 4
  have f4 := blk_frozen ht 4
  simp at t4
  have t5 := blk_cell ht 5
  have f5 := blk_frozen ht 5
  simp at t5
  have t6 := blk_cell ht 6
  have f6 := blk_frozen ht 6
  simp at t6
  have t7 := blk_cell ht 7
  have f7 := blk_frozen ht 7
  simp at t7
  have t8 := blk_cell ht 8
  have f8 := blk_frozen ht 8
  simp at t8
  have t9 := blk_cell ht 9
  have f9 := blk_frozen ht 9
  simp at t9
  clear ht
  go_wp2
  exact endT (r := (nilRp, 2300)) (v3 := .slice none 0 0) (v9 := .slice none 0 0) _ rfl rfl HT5.out (Kd.R_nil _ _ _ _ _) nilR HB5.out (put10_blk w5 w.heap.size _ _ _ _ _ _ _ _ _ _ _ (.int .i64 0) (.int .i64 0) (.int .i64 0) (.slice none 0 0) (.int .i64 0) (.int .i64 0) (.int .i64 0) (.int .i64 0) (.int .i64 0) (.slice none 0 0) HT5.out)
set_option maxHeartbeats 8000000 in
set_option maxRecDepth 100000 in
theorem rt5_true (k : Nat) (a0 : ByteArray) (w : World) (xs : List Int) (hl : tollbarref1_List.f k a0 = some (xs, 0)) (hb : xs.length ≤ 1099511627776) (hpos : 0 < xs.length) (hk : rd xs 0 = 5) (hn : (xs.length : Int) = 2) (hm : tollbarref22_ReplyMay.f k 0 0 0 [] 5 0 0 0 (rd xs 1) [] = some true) :
    Calls Try.prog 31 #[.string a0] w (ReadPost w (⟨0, 0, 0, [], 5, 0, 0, 0, rd xs 1, []⟩, 0)) := by
  generalize hv : rd xs 1 = v at hm ⊢
  have HL := Lib.hid (tollbarref1_List.calls k a0 xs 0 (w.alloc (.cells #[.int .i64 0, .int .i64 0, .int .i64 0, .slice none 0 0, .int .i64 0, .int .i64 0, .int .i64 0, .int .i64 0, .int .i64 0, .slice none 0 0] 48 (0, 0))) hl)
  clear hl
  go_enter Try.func31, Try.ntmps31
  go_wp2_with fail
  refine HL.out.mono ?_
  rintro e w1 ⟨v0, rfl, HX, HB⟩
  obtain ⟨A, c, rfl, hlc, hC, hb0, hB0, hlt0⟩ := armL_ HX HB
  have HB0 := Lib.hid hB0
  have HT1 := Lib.hid hb0
  have HC := Lib.hid hC
  clear HX HB hB0 hb0 hC
  obtain ⟨ad, e0, x0⟩ := Kd.at_int HC.out 0 (by omega) (by omega)
  subst e0
  have x0 : w1.cell? ad = some (.int .i64 (rd xs 0)) := by simpa [Addr.add] using x0
  have x1 : w1.cell? ⟨ad.block, ad.off + 1, none⟩ = some (.int .i64 (rd xs 1)) := by
    obtain ⟨ad', e', x'⟩ := Kd.at_int HC.out 1 (by omega) (by omega)
    obtain rfl : ad = ad' := by injection e'
    simpa [Addr.add] using x'
  have hadl : ad.block < w1.heap.size := World.block_lt_of_cell? _ _ x0
  rw [hk] at x0
  rw [hv] at x1
  have HT2 := Lib.hid (blk_alloc HT1.out (.cells #[.int .i64 0, .int .i64 0, .int .i64 0, .slice none 0 0, .int .i64 5, .int .i64 0, .int .i64 0, .int .i64 0, .int .i64 v, .slice none 0 0] 48 (0, 0)))
  have HX2 := Lib.hid (blk_new w1 (.cells #[.int .i64 0, .int .i64 0, .int .i64 0, .slice none 0 0, .int .i64 5, .int .i64 0, .int .i64 0, .int .i64 0, .int .i64 v, .slice none 0 0] 48 (0, 0)))
  have HB2 := Lib.hid (HB0.out.alloc HB0.out.size (.cells #[.int .i64 0, .int .i64 0, .int .i64 0, .slice none 0 0, .int .i64 5, .int .i64 0, .int .i64 0, .int .i64 0, .int .i64 v, .slice none 0 0] 48 (0, 0)))
  go_wp2_with fail
  refine (tollbarref22_ReplyMay.calls k 0 0 0 none 0 [] 5 0 0 0 v none 0 [] true _ (Kd.C_nil _ _) (Nat.le_refl _) (Kd.C_nil _ _) (Nat.le_refl _) hm).mono ?_
  rintro e w5 ⟨rfl, hb5⟩
  have HT5 := Lib.hid (blk_below HT2.out hb5)
  have HB5 := Lib.hid (below_then HB2.out HB2.out.size hb5)
  have HX5 := Lib.hid (blk_below HX2.out hb5)
  clear hb5
  have ht := HX5.out
  have p0 := blk_cell ht 0
  simp at p0
  have p1 := blk_cell ht 1
  simp at p1
  have p2 := blk_cell ht 2
  simp at p2
  have p3 := blk_cell ht 3
  simp at p3
  have p4 := blk_cell ht 4
  simp at p4
  have p5 := blk_cell ht 5
  simp at p5
  have p6 := blk_cell ht 6
  simp at p6
  have p7 := blk_cell ht 7
  simp at p7
  have p8 := blk_cell ht 8
  simp at p8
  have p9 := blk_cell ht 9
  simp at p9
  clear ht
  have ht := HT5.out
  have t0 := blk_cell ht 0
  have f0 := blk_frozen ht 0
  simp at t0
  have t1 := blk_cell ht 1
  have f1 := blk_frozen ht 1
  simp at t1
  have t2 := blk_cell ht 2
  have f2 := blk_frozen ht 2
  simp at t2
  have t3 := blk_cell ht 3
  have f3 := blk_frozen ht 3
  simp at t3
  have t4 := blk_cell ht 4
  have f4 := blk_frozen ht 4
  simp at t4
  have t5 := blk_cell ht 5
  have f5 := blk_frozen ht 5
  simp at t5
  have t6 := blk_cell ht 6
  have f6 := blk_frozen ht 6
  simp at t6
  have t7 := blk_cell ht 7
  have f7 := blk_frozen ht 7
  simp at t7
  have t8 := blk_cell ht 8
  have f8 := blk_frozen ht 8
  simp at t8
  have t9 := blk_cell ht 9
  have f9 := blk_frozen ht 9
  simp at t9
  clear ht
  go_wp2
  exact endT (r := (⟨0, 0, 0, [], 5, 0, 0, 0, v, []⟩, 0)) _ rfl rfl HT5.out (Kd.R_nil _ _ _ _ _) (nilR) HB5.out (put10_blk w5 w.heap.size _ _ _ _ _ _ _ _ _ _ _ (.int .i64 0) (.int .i64 0) (.int .i64 0) (.slice none 0 0) (.int .i64 5) (.int .i64 0) (.int .i64 0) (.int .i64 0) (.int .i64 v) (.slice none 0 0) HT5.out)
set_option maxHeartbeats 8000000 in
set_option maxRecDepth 100000 in
theorem rt_none (k : Nat) (a0 : ByteArray) (w : World) (xs : List Int) (hl : tollbarref1_List.f k a0 = some (xs, 0)) (hb : xs.length ≤ 1099511627776) (hpos : 0 < xs.length) (kd : Int) (hk : rd xs 0 = kd) (k1 : (kd == 1) = false) (k2 : (kd == 2) = false) (k3 : (kd == 3) = false) (k4 : (kd == 4) = false) (k5 : (kd == 5) = false) :
    Calls Try.prog 31 #[.string a0] w (ReadPost w (nilRp, 2300)) := by
  have HL := Lib.hid (tollbarref1_List.calls k a0 xs 0 (w.alloc (.cells #[.int .i64 0, .int .i64 0, .int .i64 0, .slice none 0 0, .int .i64 0, .int .i64 0, .int .i64 0, .int .i64 0, .int .i64 0, .slice none 0 0] 48 (0, 0))) hl)
  clear hl
  go_enter Try.func31, Try.ntmps31
  go_wp2_with fail
  refine HL.out.mono ?_
  rintro e w1 ⟨v0, rfl, HX, HB⟩
  obtain ⟨A, c, rfl, hlc, hC, hb0, hB0, hlt0⟩ := armL_ HX HB
  have HB0 := Lib.hid hB0
  have HT1 := Lib.hid hb0
  have HC := Lib.hid hC
  clear HX HB hB0 hb0 hC
  obtain ⟨ad, e0, x0⟩ := Kd.at_int HC.out 0 (by omega) (by omega)
  subst e0
  have x0 : w1.cell? ad = some (.int .i64 (rd xs 0)) := by simpa [Addr.add] using x0
  have hadl : ad.block < w1.heap.size := World.block_lt_of_cell? _ _ x0
  rw [hk] at x0
  have HT2 := Lib.hid (blk_alloc HT1.out (.cells #[.int .i64 0, .int .i64 0, .int .i64 0, .slice none 0 0, .int .i64 kd, .int .i64 0, .int .i64 0, .int .i64 0, .int .i64 0, .slice none 0 0] 48 (0, 0)))
  have HB2 := Lib.hid (HB0.out.alloc HB0.out.size (.cells #[.int .i64 0, .int .i64 0, .int .i64 0, .slice none 0 0, .int .i64 kd, .int .i64 0, .int .i64 0, .int .i64 0, .int .i64 0, .slice none 0 0] 48 (0, 0)))
  go_upto_region 24 with fail
  generalize (w1.alloc (.cells #[.int .i64 0, .int .i64 0, .int .i64 0, .slice none 0 0, .int .i64 kd, .int .i64 0, .int .i64 0, .int .i64 0, .int .i64 0, .slice none 0 0] 48 (0, 0))) = W2 at HT2 HB2 ⊢
  have ht := HT2.out
  have t0 := blk_cell ht 0
  have f0 := blk_frozen ht 0
  simp at t0
  have t1 := blk_cell ht 1
  have f1 := blk_frozen ht 1
  simp at t1
  have t2 := blk_cell ht 2
  have f2 := blk_frozen ht 2
  simp at t2
  have t3 := blk_cell ht 3
  have f3 := blk_frozen ht 3
  simp at t3
  have t4 := blk_cell ht 4
  have f4 := blk_frozen ht 4
  simp at t4
  have t5 := blk_cell ht 5
  have f5 := blk_frozen ht 5
  simp at t5
  have t6 := blk_cell ht 6
  have f6 := blk_frozen ht 6
  simp at t6
  have t7 := blk_cell ht 7
  have f7 := blk_frozen ht 7
  simp at t7
  have t8 := blk_cell ht 8
  have f8 := blk_frozen ht 8
  simp at t8
  have t9 := blk_cell ht 9
  have f9 := blk_frozen ht 9
  simp at t9
  clear ht
  go_wp2
  exact endT (r := (nilRp, 2300)) (v3 := .slice none 0 0) (v9 := .slice none 0 0) _ rfl rfl HT2.out (Kd.R_nil _ _ _ _ _) nilR HB2.out (put10_blk W2 w.heap.size _ _ _ _ _ _ _ _ _ _ _ (.int .i64 0) (.int .i64 0) (.int .i64 0) (.slice none 0 0) (.int .i64 0) (.int .i64 0) (.int .i64 0) (.int .i64 0) (.int .i64 0) (.slice none 0 0) HT2.out)
end Go.Proofs.Yteikgpdjfhdneaa.Man
namespace Go.Proofs.Yteikgpdjfhdneaa.Man
open Go.RowKit Go.Proofs.Yteikgpdjfhdneaa.QT Go.Proofs.Yteikgpdjfhdneaa.QK Go.Proofs.YteikgpdjfhdneaaW.PrintWords Go.Proofs.YteikgpdjfhdneaaW.PrintLast Go.Proofs.YteikgpdjfhdneaaW.PrintMore
set_option maxHeartbeats 8000000 in
set_option maxRecDepth 100000 in
theorem rt3_no (k : Nat) (a0 : ByteArray) (w : World) (xs : List Int) (hl : tollbarref1_List.f k a0 = some (xs, 0)) (hb : xs.length ≤ 1099511627776) (hpos : 0 < xs.length) (hk : rd xs 0 = 3) (hn : ¬ 3 ≤ xs.length) :
    Calls Try.prog 31 #[.string a0] w (ReadPost w (nilRp, 2300)) := by
  have HL := Lib.hid (tollbarref1_List.calls k a0 xs 0 (w.alloc (.cells #[.int .i64 0, .int .i64 0, .int .i64 0, .slice none 0 0, .int .i64 0, .int .i64 0, .int .i64 0, .int .i64 0, .int .i64 0, .slice none 0 0] 48 (0, 0))) hl)
  clear hl
  go_enter Try.func31, Try.ntmps31
  go_wp2_with fail
  refine HL.out.mono ?_
  rintro e w1 ⟨v0, rfl, HX, HB⟩
  obtain ⟨A, c, rfl, hlc, hC, hb0, hB0, hlt0⟩ := armL_ HX HB
  have HB0 := Lib.hid hB0
  have HT1 := Lib.hid hb0
  have HC := Lib.hid hC
  clear HX HB hB0 hb0 hC
  obtain ⟨ad, e0, x0⟩ := Kd.at_int HC.out 0 (by omega) (by omega)
  subst e0
  have x0 : w1.cell? ad = some (.int .i64 (rd xs 0)) := by simpa [Addr.add] using x0
  have hadl : ad.block < w1.heap.size := World.block_lt_of_cell? _ _ x0
  rw [hk] at x0
  have hn2 : (xs.length : Int) < 3 := by omega
  have HT2 := Lib.hid (blk_alloc HT1.out (.cells #[.int .i64 0, .int .i64 0, .int .i64 0, .slice none 0 0, .int .i64 3, .int .i64 0, .int .i64 0, .int .i64 0, .int .i64 0, .slice none 0 0] 48 (0, 0)))
  have HB2 := Lib.hid (HB0.out.alloc HB0.out.size (.cells #[.int .i64 0, .int .i64 0, .int .i64 0, .slice none 0 0, .int .i64 3, .int .i64 0, .int .i64 0, .int .i64 0, .int .i64 0, .slice none 0 0] 48 (0, 0)))
  go_upto_region 24 with fail
  generalize (w1.alloc (.cells #[.int .i64 0, .int .i64 0, .int .i64 0, .slice none 0 0, .int .i64 3, .int .i64 0, .int .i64 0, .int .i64 0, .int .i64 0, .slice none 0 0] 48 (0, 0))) = W2 at HT2 HB2 ⊢
  have ht := HT2.out
  have t0 := blk_cell ht 0
  have f0 := blk_frozen ht 0
  simp at t0
  have t1 := blk_cell ht 1
  have f1 := blk_frozen ht 1
  simp at t1
  have t2 := blk_cell ht 2
  have f2 := blk_frozen ht 2
  simp at t2
  have t3 := blk_cell ht 3
  have f3 := blk_frozen ht 3
  simp at t3
  have t4 := blk_cell ht 4
  have f4 := blk_frozen ht 4
  simp at t4
  have t5 := blk_cell ht 5
  have f5 := blk_frozen ht 5
  simp at t5
  have t6 := blk_cell ht 6
  have f6 := blk_frozen ht 6
  simp at t6
  have t7 := blk_cell ht 7
  have f7 := blk_frozen ht 7
  simp at t7
  have t8 := blk_cell ht 8
  have f8 := blk_frozen ht 8
  simp at t8
  have t9 := blk_cell ht 9
  have f9 := blk_frozen ht 9
  simp at t9
  clear ht
  go_wp2
  exact endT (r := (nilRp, 2300)) (v3 := .slice none 0 0) (v9 := .slice none 0 0) _ rfl rfl HT2.out (Kd.R_nil _ _ _ _ _) nilR HB2.out (put10_blk W2 w.heap.size _ _ _ _ _ _ _ _ _ _ _ (.int .i64 0) (.int .i64 0) (.int .i64 0) (.slice none 0 0) (.int .i64 0) (.int .i64 0) (.int .i64 0) (.int .i64 0) (.int .i64 0) (.slice none 0 0) HT2.out)
set_option maxHeartbeats 8000000 in
set_option maxRecDepth 100000 in
theorem rt3_no2 (k : Nat) (a0 : ByteArray) (w : World) (xs : List Int) (hl : tollbarref1_List.f k a0 = some (xs, 0)) (hb : xs.length ≤ 1099511627776) (hpos : 0 < xs.length) (hk : rd xs 0 = 3) (hn : 3 ≤ xs.length) (hn2 : ¬ rd xs 2 = (xs.length : Int) - 3) :
    Calls Try.prog 31 #[.string a0] w (ReadPost w (nilRp, 2300)) := by
  generalize hv2 : rd xs 2 = v2 at hn2
  have HL := Lib.hid (tollbarref1_List.calls k a0 xs 0 (w.alloc (.cells #[.int .i64 0, .int .i64 0, .int .i64 0, .slice none 0 0, .int .i64 0, .int .i64 0, .int .i64 0, .int .i64 0, .int .i64 0, .slice none 0 0] 48 (0, 0))) hl)
  clear hl
  go_enter Try.func31, Try.ntmps31
  go_wp2_with fail
  refine HL.out.mono ?_
  rintro e w1 ⟨v0, rfl, HX, HB⟩
  obtain ⟨A, c, rfl, hlc, hC, hb0, hB0, hlt0⟩ := armL_ HX HB
  have HB0 := Lib.hid hB0
  have HT1 := Lib.hid hb0
  have HC := Lib.hid hC
  clear HX HB hB0 hb0 hC
  obtain ⟨ad, e0, x0⟩ := Kd.at_int HC.out 0 (by omega) (by omega)
  subst e0
  have x0 : w1.cell? ad = some (.int .i64 (rd xs 0)) := by simpa [Addr.add] using x0
  have x2 : w1.cell? ⟨ad.block, ad.off + 2, none⟩ = some (.int .i64 (rd xs 2)) := by
    obtain ⟨ad', e', x'⟩ := Kd.at_int HC.out 2 (by omega) (by omega)
    obtain rfl : ad = ad' := by injection e'
    simpa [Addr.add] using x'
  have hadl : ad.block < w1.heap.size := World.block_lt_of_cell? _ _ x0
  rw [hk] at x0
  rw [hv2] at x2
  have hn3 : (v2 == (xs.length : Int) - 3) = false := by simpa using hn2
  have hge : ¬ (xs.length : Int) < 3 := by omega
  have HT2 := Lib.hid (blk_alloc HT1.out (.cells #[.int .i64 0, .int .i64 0, .int .i64 0, .slice none 0 0, .int .i64 3, .int .i64 0, .int .i64 0, .int .i64 0, .int .i64 0, .slice none 0 0] 48 (0, 0)))
  have HB2 := Lib.hid (HB0.out.alloc HB0.out.size (.cells #[.int .i64 0, .int .i64 0, .int .i64 0, .slice none 0 0, .int .i64 3, .int .i64 0, .int .i64 0, .int .i64 0, .int .i64 0, .slice none 0 0] 48 (0, 0)))
  go_upto_region 24 with fail
  generalize (w1.alloc (.cells #[.int .i64 0, .int .i64 0, .int .i64 0, .slice none 0 0, .int .i64 3, .int .i64 0, .int .i64 0, .int .i64 0, .int .i64 0, .slice none 0 0] 48 (0, 0))) = W2 at HT2 HB2 ⊢
  have ht := HT2.out
  have t0 := blk_cell ht 0
  have f0 := blk_frozen ht 0
  simp at t0
  have t1 := blk_cell ht 1
  have f1 := blk_frozen ht 1
  simp at t1
  have t2 := blk_cell ht 2
  have f2 := blk_frozen ht 2
  simp at t2
  have t3 := blk_cell ht 3
  have f3 := blk_frozen ht 3
  simp at t3
  have t4 := blk_cell ht 4
  have f4 := blk_frozen ht 4
  simp at t4
  have t5 := blk_cell ht 5
  have f5 := blk_frozen ht 5
  simp at t5
  have t6 := blk_cell ht 6
  have f6 := blk_frozen ht 6
  simp at t6
  have t7 := blk_cell ht 7
  have f7 := blk_frozen ht 7
  simp at t7
  have t8 := blk_cell ht 8
  have f8 := blk_frozen ht 8
  simp at t8
  have t9 := blk_cell ht 9
  have f9 := blk_frozen ht 9
  simp at t9
  clear ht
  go_wp2
  exact endT (r := (nilRp, 2300)) (v3 := .slice none 0 0) (v9 := .slice none 0 0) _ rfl rfl HT2.out (Kd.R_nil _ _ _ _ _) nilR HB2.out (put10_blk W2 w.heap.size _ _ _ _ _ _ _ _ _ _ _ (.int .i64 0) (.int .i64 0) (.int .i64 0) (.slice none 0 0) (.int .i64 0) (.int .i64 0) (.int .i64 0) (.int .i64 0) (.int .i64 0) (.slice none 0 0) HT2.out)
set_option maxHeartbeats 8000000 in
set_option maxRecDepth 100000 in
theorem rt3_false (k : Nat) (a0 : ByteArray) (w : World) (xs : List Int) (hl : tollbarref1_List.f k a0 = some (xs, 0)) (hb : xs.length ≤ 1099511627776) (hpos : 0 < xs.length) (hk : rd xs 0 = 3) (hn : 3 ≤ xs.length) (hn2 : rd xs 2 = (xs.length : Int) - 3) (hm : tollbarref22_ReplyMay.f k 0 0 (rd xs 1) (xs.drop 3) 3 0 0 0 0 [] = some false) :
    Calls Try.prog 31 #[.string a0] w (ReadPost w (nilRp, 2300)) := by
  generalize hv : rd xs 1 = v at hm ⊢
  generalize hv2 : rd xs 2 = v2 at hn2
  generalize hds : xs.drop 3 = ds at hm ⊢
  have hdl : ds.length ≤ 1099511627776 := by rw [← hds, List.length_drop]; omega
  obtain ⟨i3, hi3, hz3⟩ := Option.map_eq_some_iff.1 info3
  have hs3 : i3.size = 1 := by simp only [Prod.mk.injEq] at hz3; exact hz3.2.1
  have HL := Lib.hid (tollbarref1_List.calls k a0 xs 0 (w.alloc (.cells #[.int .i64 0, .int .i64 0, .int .i64 0, .slice none 0 0, .int .i64 0, .int .i64 0, .int .i64 0, .int .i64 0, .int .i64 0, .slice none 0 0] 48 (0, 0))) hl)
  clear hl
  go_enter Try.func31, Try.ntmps31
  go_wp2_with fail
  refine HL.out.mono ?_
  rintro e w1 ⟨v0, rfl, HX, HB⟩
  obtain ⟨A, c, rfl, hlc, hC, hb0, hB0, hlt0⟩ := armL_ HX HB
  have HB0 := Lib.hid hB0
  have HT1 := Lib.hid hb0
  have HC := Lib.hid hC
  clear HX HB hB0 hb0 hC
  obtain ⟨ad, e0, x0⟩ := Kd.at_int HC.out 0 (by omega) (by omega)
  subst e0
  have x0 : w1.cell? ad = some (.int .i64 (rd xs 0)) := by simpa [Addr.add] using x0
  have x1 : w1.cell? ⟨ad.block, ad.off + 1, none⟩ = some (.int .i64 (rd xs 1)) := by
    obtain ⟨ad', e', x'⟩ := Kd.at_int HC.out 1 (by omega) (by omega)
    obtain rfl : ad = ad' := by injection e'
    simpa [Addr.add] using x'
  have x2 : w1.cell? ⟨ad.block, ad.off + 2, none⟩ = some (.int .i64 (rd xs 2)) := by
    obtain ⟨ad', e', x'⟩ := Kd.at_int HC.out 2 (by omega) (by omega)
    obtain rfl : ad = ad' := by injection e'
    simpa [Addr.add] using x'
  have hadl : ad.block < w1.heap.size := World.block_lt_of_cell? _ _ x0
  rw [hk] at x0
  rw [hv] at x1
  rw [hv2, hn2] at x2
  have hge : ¬ (xs.length : Int) < 3 := by omega
  obtain ⟨A', hd, hrd, hle⟩ := print_drop_of (P := Try.prog) (fun x : Int => Value.int .i64 x) 0 43 3 .i64 Try.underlying43 hi3 hs3 (some ad) c xs 3 (by decide) (by omega) hlc
  have hCd : Hid (Kd.C (Kd.int .i64) w1 A' (xs.drop 3).length (xs.drop 3)) := Lib.hid (Kd.C_of_reads (hrd w1 (Kd.reads_of_C (d := (0 : Int)) HC.out)))
  simp only [show (3 : Int).toNat = 3 from rfl] at hd hCd
  rw [hds] at hd hCd
  clear hrd hle hi3 hz3 hs3
  have HT2 := Lib.hid (blk_alloc HT1.out (.cells #[.int .i64 0, .int .i64 0, .int .i64 0, .slice none 0 0, .int .i64 3, .int .i64 0, .int .i64 0, .int .i64 0, .int .i64 0, .slice none 0 0] 48 (0, 0)))
  have HX2 := Lib.hid (blk_new w1 (.cells #[.int .i64 0, .int .i64 0, .int .i64 0, .slice none 0 0, .int .i64 3, .int .i64 0, .int .i64 0, .int .i64 0, .int .i64 0, .slice none 0 0] 48 (0, 0)))
  have HB2 := Lib.hid (HB0.out.alloc HB0.out.size (.cells #[.int .i64 0, .int .i64 0, .int .i64 0, .slice none 0 0, .int .i64 3, .int .i64 0, .int .i64 0, .int .i64 0, .int .i64 0, .slice none 0 0] 48 (0, 0)))
  have HCD := Lib.hid (Kd.C_alloc hCd.out (.cells #[.int .i64 0, .int .i64 0, .int .i64 0, .slice none 0 0, .int .i64 3, .int .i64 0, .int .i64 0, .int .i64 0, .int .i64 0, .slice none 0 0] 48 (0, 0)))
  have x1 := cell_al (o := (.cells #[.int .i64 0, .int .i64 0, .int .i64 0, .slice none 0 0, .int .i64 3, .int .i64 0, .int .i64 0, .int .i64 0, .int .i64 0, .slice none 0 0] 48 (0, 0))) x1
  go_upto_region 16 with fail
  obtain ⟨rb, hrb⟩ : ∃ rb, w1.heap.size = rb := ⟨_, rfl⟩
  rw [hrb] at HX2 hadl hlt0 ⊢
  generalize (w1.alloc (.cells #[.int .i64 0, .int .i64 0, .int .i64 0, .slice none 0 0, .int .i64 3, .int .i64 0, .int .i64 0, .int .i64 0, .int .i64 0, .slice none 0 0] 48 (0, 0))) = W2 at HT2 HX2 HB2 HCD x1 ⊢
  have hrl : rb < W2.heap.size := blk_lt HX2.out
  have hi1 : (1 : Int) < (xs.length : Int) := by omega
  have hi2 : 1 < xs.length := by omega
  have had2 : ad.block < W2.heap.size := by omega
  have HL0 := Lib.hid (lit0_R W2.drew W2.heap.size (Nat.le_refl _))
  have HBD := Lib.hid (((Below.refl W2.heap.size W2).drew).alloc (Nat.le_refl _) (.cells #[] 3 (0, 0)))
  clear hCd x2 x0 HC HT1 HB0 hrb
  go_region_law (refine Kd.R_append_rows_step (Kd.int .i64) (w0 := W2.drew.alloc (.cells #[] 3 (0, 0))) W2.heap.size (by rfl) (.tmp 64) (.tmp 66) 43 3 (.int .i64 0) 8 rfl Try.underlying43 info3 rfl (by decide) (by omega) (.slice (some ⟨W2.heap.size, 0, none⟩) 0 0) [] ds A' ds.length (c - 3) (fun _ => True) (fun _ => False) rfl rfl ?aO ?aR (fun _ _ h => h) (fun _ h => h.elim) ?aF ?aB ?aS ?aL ?_; (case aO => exact HL0.out); (case aR => exact (Kd.C_below HCD.out (HBD.out.mono (Nat.le_refl _)))); (case aF => exact (fun _ _ => trivial)); (case aB => exact Below.refl _ _); (case aS => (simp; done)); (case aL => (simp only [List.length_nil]; omega)); intro v1 w7 ho hb1 hg _; rw [List.nil_append] at ho; obtain ⟨A7, c7, rfl⟩ := Kd.R_slice ho; have HO7 := Lib.hid ho; have hB7 := HBD.out.grown hg HBD.out.size (fun k e => by simp only [Value.ownBlock, Option.some.injEq] at e; omega); have HB7 := Lib.hid hB7; have hx7 := blk_below HX2.out hB7; have HX7 := Lib.hid hx7; have HT7 := Lib.hid (blk_below HT2.out hB7); have f72 := blk_frozen hx7 2; have f73 := blk_frozen hx7 3; have e72 := blk_cell hx7 2; have e73 := blk_cell hx7 3; simp at e72 e73; have x17 : w7.cell? ⟨ad.block, ad.off + 1, none⟩ = some (.int .i64 v) := pw_cell_below hB7 x1; clear ho hb1 hg hB7 hx7)
  all_goals
    have hne8 : w.heap.size ≠ rb := by omega
    have HS8 : Hid (w7.grownBy ((w7.setCell ⟨rb, 2, none⟩ (.int .i64 v)).setCell ⟨rb, 3, none⟩ (.slice A7 ds.length c7)) (some rb)) := Lib.hid (Lib.grownBy_setB (Lib.grownBy_setCell w7 rb 2 _) 3 _)
    have HX8 : Hid (((w7.setCell ⟨rb, 2, none⟩ (.int .i64 v)).setCell ⟨rb, 3, none⟩ (.slice A7 ds.length c7)).heap[rb]? = some (.cells #[.int .i64 0, .int .i64 0, .int .i64 v, .slice A7 ds.length c7, .int .i64 3, .int .i64 0, .int .i64 0, .int .i64 0, .int .i64 0, .slice none 0 0] 48 (0, 0))) := Lib.hid (by simpa using blk_set (blk_set HX7.out 2 (.int .i64 v)) 3 (.slice A7 ds.length c7))
    have HT8 : Hid (((w7.setCell ⟨rb, 2, none⟩ (.int .i64 v)).setCell ⟨rb, 3, none⟩ (.slice A7 ds.length c7)).heap[w.heap.size]? = some (.cells #[.int .i64 0, .int .i64 0, .int .i64 0, .slice none 0 0, .int .i64 0, .int .i64 0, .int .i64 0, .int .i64 0, .int .i64 0, .slice none 0 0] 48 (0, 0))) := Lib.hid (blk_grown HT7.out HS8.out (by simpa using hne8))
    have HB8 : Hid (Below w.heap.size w ((w7.setCell ⟨rb, 2, none⟩ (.int .i64 v)).setCell ⟨rb, 3, none⟩ (.slice A7 ds.length c7))) := Lib.hid ((below_then HB2.out HB2.out.size HB7.out).grown HS8.out (below_then HB2.out HB2.out.size HB7.out).size (fun k e => by injection e with e; omega))
    have HR8 : Hid (Kd.R (Kd.int .i64) 3 ((w7.setCell ⟨rb, 2, none⟩ (.int .i64 v)).setCell ⟨rb, 3, none⟩ (.slice A7 ds.length c7)) w.heap.size (fun _ => True) (.slice A7 ds.length c7) ds) := Lib.hid (Kd.R_lower (keepR HO7.out HX7.out HS8.out (by decide)) (by omega))
    obtain ⟨A8, c8, e8, hc8, hC8⟩ := Kd.R_reads HR8.out
    obtain ⟨rfl, rfl⟩ : A7 = A8 ∧ c7 = c8 := by injection e8 with e81 e82 e83; exact ⟨e81, e83⟩
    have HC8 := Lib.hid hC8
    clear hC8 e8
    go_upto_region 23 with fail
    generalize ((w7.setCell ⟨rb, 2, none⟩ (.int .i64 v)).setCell ⟨rb, 3, none⟩ (.slice A7 ds.length c7)) = W8 at HX8 HT8 HB8 HR8 HC8 ⊢
    have hh := HX8.out
    have q0 := blk_cell hh 0
    simp at q0
    have q1 := blk_cell hh 1
    simp at q1
    have q2 := blk_cell hh 2
    simp at q2
    have q3 := blk_cell hh 3
    simp at q3
    have q4 := blk_cell hh 4
    simp at q4
    have q5 := blk_cell hh 5
    simp at q5
    have q6 := blk_cell hh 6
    simp at q6
    have q7 := blk_cell hh 7
    simp at q7
    have q8 := blk_cell hh 8
    simp at q8
    have q9 := blk_cell hh 9
    simp at q9
    clear hh
    go_wp2_with fail
    refine (tollbarref22_ReplyMay.calls k 0 0 v A7 c7 ds 3 0 0 0 0 none 0 [] false _ HC8.out hc8 (Kd.C_nil _ _) (Nat.le_refl _) hm).mono ?_
    rintro e w5 ⟨rfl, hb5⟩
    have HT5 := Lib.hid (blk_below HT8.out hb5)
    have HB5 := Lib.hid (below_then HB8.out HB8.out.size hb5)
    clear hb5
    have ht := HT5.out
    have t0 := blk_cell ht 0
    have f0 := blk_frozen ht 0
    simp at t0
    have t1 := blk_cell ht 1
    have f1 := blk_frozen ht 1
    simp at t1
    have t2 := blk_cell ht 2
    have f2 := blk_frozen ht 2
    simp at t2
    have t3 := blk_cell ht 3
    have f3 := blk_frozen ht 3
    simp at t3
    have t4 := blk_cell ht 4
    have f4 := blk_frozen ht 4
    simp at t4
    have t5 := blk_cell ht 5
    have f5 := blk_frozen ht 5
    simp at t5
    have t6 := blk_cell ht 6
    have f6 := blk_frozen ht 6
    simp at t6
    have t7 := blk_cell ht 7
    have f7 := blk_frozen ht 7
    simp at t7
    have t8 := blk_cell ht 8
    have f8 := blk_frozen ht 8
    simp at t8
    have t9 := blk_cell ht 9
    have f9 := blk_frozen ht 9
    simp at t9
    clear ht
    go_wp2
    exact endT (r := (nilRp, 2300)) (v3 := .slice none 0 0) (v9 := .slice none 0 0) _ rfl rfl HT5.out (Kd.R_nil _ _ _ _ _) nilR HB5.out (put10_blk w5 w.heap.size _ _ _ _ _ _ _ _ _ _ _ (.int .i64 0) (.int .i64 0) (.int .i64 0) (.slice none 0 0) (.int .i64 0) (.int .i64 0) (.int .i64 0) (.int .i64 0) (.int .i64 0) (.slice none 0 0) HT5.out)
set_option maxHeartbeats 8000000 in
set_option maxRecDepth 100000 in
theorem rt3_true (k : Nat) (a0 : ByteArray) (w : World) (xs : List Int) (hl : tollbarref1_List.f k a0 = some (xs, 0)) (hb : xs.length ≤ 1099511627776) (hpos : 0 < xs.length) (hk : rd xs 0 = 3) (hn : 3 ≤ xs.length) (hn2 : rd xs 2 = (xs.length : Int) - 3) (hm : tollbarref22_ReplyMay.f k 0 0 (rd xs 1) (xs.drop 3) 3 0 0 0 0 [] = some true) :
    Calls Try.prog 31 #[.string a0] w (ReadPost w (⟨0, 0, rd xs 1, xs.drop 3, 3, 0, 0, 0, 0, []⟩, 0)) := by
  generalize hv : rd xs 1 = v at hm ⊢
  generalize hv2 : rd xs 2 = v2 at hn2
  generalize hds : xs.drop 3 = ds at hm ⊢
  have hdl : ds.length ≤ 1099511627776 := by rw [← hds, List.length_drop]; omega
  obtain ⟨i3, hi3, hz3⟩ := Option.map_eq_some_iff.1 info3
  have hs3 : i3.size = 1 := by simp only [Prod.mk.injEq] at hz3; exact hz3.2.1
  have HL := Lib.hid (tollbarref1_List.calls k a0 xs 0 (w.alloc (.cells #[.int .i64 0, .int .i64 0, .int .i64 0, .slice none 0 0, .int .i64 0, .int .i64 0, .int .i64 0, .int .i64 0, .int .i64 0, .slice none 0 0] 48 (0, 0))) hl)
  clear hl
  go_enter Try.func31, Try.ntmps31
  go_wp2_with fail
  refine HL.out.mono ?_
  rintro e w1 ⟨v0, rfl, HX, HB⟩
  obtain ⟨A, c, rfl, hlc, hC, hb0, hB0, hlt0⟩ := armL_ HX HB
  have HB0 := Lib.hid hB0
  have HT1 := Lib.hid hb0
  have HC := Lib.hid hC
  clear HX HB hB0 hb0 hC
  obtain ⟨ad, e0, x0⟩ := Kd.at_int HC.out 0 (by omega) (by omega)
  subst e0
  have x0 : w1.cell? ad = some (.int .i64 (rd xs 0)) := by simpa [Addr.add] using x0
  have x1 : w1.cell? ⟨ad.block, ad.off + 1, none⟩ = some (.int .i64 (rd xs 1)) := by
    obtain ⟨ad', e', x'⟩ := Kd.at_int HC.out 1 (by omega) (by omega)
    obtain rfl : ad = ad' := by injection e'
    simpa [Addr.add] using x'
  have x2 : w1.cell? ⟨ad.block, ad.off + 2, none⟩ = some (.int .i64 (rd xs 2)) := by
    obtain ⟨ad', e', x'⟩ := Kd.at_int HC.out 2 (by omega) (by omega)
    obtain rfl : ad = ad' := by injection e'
    simpa [Addr.add] using x'
  have hadl : ad.block < w1.heap.size := World.block_lt_of_cell? _ _ x0
  rw [hk] at x0
  rw [hv] at x1
  rw [hv2, hn2] at x2
  have hge : ¬ (xs.length : Int) < 3 := by omega
  obtain ⟨A', hd, hrd, hle⟩ := print_drop_of (P := Try.prog) (fun x : Int => Value.int .i64 x) 0 43 3 .i64 Try.underlying43 hi3 hs3 (some ad) c xs 3 (by decide) (by omega) hlc
  have hCd : Hid (Kd.C (Kd.int .i64) w1 A' (xs.drop 3).length (xs.drop 3)) := Lib.hid (Kd.C_of_reads (hrd w1 (Kd.reads_of_C (d := (0 : Int)) HC.out)))
  simp only [show (3 : Int).toNat = 3 from rfl] at hd hCd
  rw [hds] at hd hCd
  clear hrd hle hi3 hz3 hs3
  have HT2 := Lib.hid (blk_alloc HT1.out (.cells #[.int .i64 0, .int .i64 0, .int .i64 0, .slice none 0 0, .int .i64 3, .int .i64 0, .int .i64 0, .int .i64 0, .int .i64 0, .slice none 0 0] 48 (0, 0)))
  have HX2 := Lib.hid (blk_new w1 (.cells #[.int .i64 0, .int .i64 0, .int .i64 0, .slice none 0 0, .int .i64 3, .int .i64 0, .int .i64 0, .int .i64 0, .int .i64 0, .slice none 0 0] 48 (0, 0)))
  have HB2 := Lib.hid (HB0.out.alloc HB0.out.size (.cells #[.int .i64 0, .int .i64 0, .int .i64 0, .slice none 0 0, .int .i64 3, .int .i64 0, .int .i64 0, .int .i64 0, .int .i64 0, .slice none 0 0] 48 (0, 0)))
  have HCD := Lib.hid (Kd.C_alloc hCd.out (.cells #[.int .i64 0, .int .i64 0, .int .i64 0, .slice none 0 0, .int .i64 3, .int .i64 0, .int .i64 0, .int .i64 0, .int .i64 0, .slice none 0 0] 48 (0, 0)))
  have x1 := cell_al (o := (.cells #[.int .i64 0, .int .i64 0, .int .i64 0, .slice none 0 0, .int .i64 3, .int .i64 0, .int .i64 0, .int .i64 0, .int .i64 0, .slice none 0 0] 48 (0, 0))) x1
  go_upto_region 16 with fail
  obtain ⟨rb, hrb⟩ : ∃ rb, w1.heap.size = rb := ⟨_, rfl⟩
  rw [hrb] at HX2 hadl hlt0 ⊢
  generalize (w1.alloc (.cells #[.int .i64 0, .int .i64 0, .int .i64 0, .slice none 0 0, .int .i64 3, .int .i64 0, .int .i64 0, .int .i64 0, .int .i64 0, .slice none 0 0] 48 (0, 0))) = W2 at HT2 HX2 HB2 HCD x1 ⊢
  have hrl : rb < W2.heap.size := blk_lt HX2.out
  have hi1 : (1 : Int) < (xs.length : Int) := by omega
  have hi2 : 1 < xs.length := by omega
  have had2 : ad.block < W2.heap.size := by omega
  have HL0 := Lib.hid (lit0_R W2.drew W2.heap.size (Nat.le_refl _))
  have HBD := Lib.hid (((Below.refl W2.heap.size W2).drew).alloc (Nat.le_refl _) (.cells #[] 3 (0, 0)))
  clear hCd x2 x0 HC HT1 HB0 hrb
  go_region_law (refine Kd.R_append_rows_step (Kd.int .i64) (w0 := W2.drew.alloc (.cells #[] 3 (0, 0))) W2.heap.size (by rfl) (.tmp 64) (.tmp 66) 43 3 (.int .i64 0) 8 rfl Try.underlying43 info3 rfl (by decide) (by omega) (.slice (some ⟨W2.heap.size, 0, none⟩) 0 0) [] ds A' ds.length (c - 3) (fun _ => True) (fun _ => False) rfl rfl ?aO ?aR (fun _ _ h => h) (fun _ h => h.elim) ?aF ?aB ?aS ?aL ?_; (case aO => exact HL0.out); (case aR => exact (Kd.C_below HCD.out (HBD.out.mono (Nat.le_refl _)))); (case aF => exact (fun _ _ => trivial)); (case aB => exact Below.refl _ _); (case aS => (simp; done)); (case aL => (simp only [List.length_nil]; omega)); intro v1 w7 ho hb1 hg _; rw [List.nil_append] at ho; obtain ⟨A7, c7, rfl⟩ := Kd.R_slice ho; have HO7 := Lib.hid ho; have hB7 := HBD.out.grown hg HBD.out.size (fun k e => by simp only [Value.ownBlock, Option.some.injEq] at e; omega); have HB7 := Lib.hid hB7; have hx7 := blk_below HX2.out hB7; have HX7 := Lib.hid hx7; have HT7 := Lib.hid (blk_below HT2.out hB7); have f72 := blk_frozen hx7 2; have f73 := blk_frozen hx7 3; have e72 := blk_cell hx7 2; have e73 := blk_cell hx7 3; simp at e72 e73; have x17 : w7.cell? ⟨ad.block, ad.off + 1, none⟩ = some (.int .i64 v) := pw_cell_below hB7 x1; clear ho hb1 hg hB7 hx7)
  all_goals
    have hne8 : w.heap.size ≠ rb := by omega
    have HS8 : Hid (w7.grownBy ((w7.setCell ⟨rb, 2, none⟩ (.int .i64 v)).setCell ⟨rb, 3, none⟩ (.slice A7 ds.length c7)) (some rb)) := Lib.hid (Lib.grownBy_setB (Lib.grownBy_setCell w7 rb 2 _) 3 _)
    have HX8 : Hid (((w7.setCell ⟨rb, 2, none⟩ (.int .i64 v)).setCell ⟨rb, 3, none⟩ (.slice A7 ds.length c7)).heap[rb]? = some (.cells #[.int .i64 0, .int .i64 0, .int .i64 v, .slice A7 ds.length c7, .int .i64 3, .int .i64 0, .int .i64 0, .int .i64 0, .int .i64 0, .slice none 0 0] 48 (0, 0))) := Lib.hid (by simpa using blk_set (blk_set HX7.out 2 (.int .i64 v)) 3 (.slice A7 ds.length c7))
    have HT8 : Hid (((w7.setCell ⟨rb, 2, none⟩ (.int .i64 v)).setCell ⟨rb, 3, none⟩ (.slice A7 ds.length c7)).heap[w.heap.size]? = some (.cells #[.int .i64 0, .int .i64 0, .int .i64 0, .slice none 0 0, .int .i64 0, .int .i64 0, .int .i64 0, .int .i64 0, .int .i64 0, .slice none 0 0] 48 (0, 0))) := Lib.hid (blk_grown HT7.out HS8.out (by simpa using hne8))
    have HB8 : Hid (Below w.heap.size w ((w7.setCell ⟨rb, 2, none⟩ (.int .i64 v)).setCell ⟨rb, 3, none⟩ (.slice A7 ds.length c7))) := Lib.hid ((below_then HB2.out HB2.out.size HB7.out).grown HS8.out (below_then HB2.out HB2.out.size HB7.out).size (fun k e => by injection e with e; omega))
    have HR8 : Hid (Kd.R (Kd.int .i64) 3 ((w7.setCell ⟨rb, 2, none⟩ (.int .i64 v)).setCell ⟨rb, 3, none⟩ (.slice A7 ds.length c7)) w.heap.size (fun _ => True) (.slice A7 ds.length c7) ds) := Lib.hid (Kd.R_lower (keepR HO7.out HX7.out HS8.out (by decide)) (by omega))
    obtain ⟨A8, c8, e8, hc8, hC8⟩ := Kd.R_reads HR8.out
    obtain ⟨rfl, rfl⟩ : A7 = A8 ∧ c7 = c8 := by injection e8 with e81 e82 e83; exact ⟨e81, e83⟩
    have HC8 := Lib.hid hC8
    clear hC8 e8
    go_upto_region 23 with fail
    generalize ((w7.setCell ⟨rb, 2, none⟩ (.int .i64 v)).setCell ⟨rb, 3, none⟩ (.slice A7 ds.length c7)) = W8 at HX8 HT8 HB8 HR8 HC8 ⊢
    have hh := HX8.out
    have q0 := blk_cell hh 0
    simp at q0
    have q1 := blk_cell hh 1
    simp at q1
    have q2 := blk_cell hh 2
    simp at q2
    have q3 := blk_cell hh 3
    simp at q3
    have q4 := blk_cell hh 4
    simp at q4
    have q5 := blk_cell hh 5
    simp at q5
    have q6 := blk_cell hh 6
    simp at q6
    have q7 := blk_cell hh 7
    simp at q7
    have q8 := blk_cell hh 8
    simp at q8
    have q9 := blk_cell hh 9
    simp at q9
    clear hh
    go_wp2_with fail
    refine (tollbarref22_ReplyMay.calls k 0 0 v A7 c7 ds 3 0 0 0 0 none 0 [] true _ HC8.out hc8 (Kd.C_nil _ _) (Nat.le_refl _) hm).mono ?_
    rintro e w5 ⟨rfl, hb5⟩
    have HT5 := Lib.hid (blk_below HT8.out hb5)
    have HB5 := Lib.hid (below_then HB8.out HB8.out.size hb5)
    have HX5 := Lib.hid (blk_below HX8.out hb5)
    have HR3 := Lib.hid (Kd.R_below HR8.out hb5)
    clear hb5
    have ht := HX5.out
    have p0 := blk_cell ht 0
    simp at p0
    have p1 := blk_cell ht 1
    simp at p1
    have p2 := blk_cell ht 2
    simp at p2
    have p3 := blk_cell ht 3
    simp at p3
    have p4 := blk_cell ht 4
    simp at p4
    have p5 := blk_cell ht 5
    simp at p5
    have p6 := blk_cell ht 6
    simp at p6
    have p7 := blk_cell ht 7
    simp at p7
    have p8 := blk_cell ht 8
    simp at p8
    have p9 := blk_cell ht 9
    simp at p9
    clear ht
    have ht := HT5.out
    have t0 := blk_cell ht 0
    have f0 := blk_frozen ht 0
    simp at t0
    have t1 := blk_cell ht 1
    have f1 := blk_frozen ht 1
    simp at t1
    have t2 := blk_cell ht 2
    have f2 := blk_frozen ht 2
    simp at t2
    have t3 := blk_cell ht 3
    have f3 := blk_frozen ht 3
    simp at t3
    have t4 := blk_cell ht 4
    have f4 := blk_frozen ht 4
    simp at t4
    have t5 := blk_cell ht 5
    have f5 := blk_frozen ht 5
    simp at t5
    have t6 := blk_cell ht 6
    have f6 := blk_frozen ht 6
    simp at t6
    have t7 := blk_cell ht 7
    have f7 := blk_frozen ht 7
    simp at t7
    have t8 := blk_cell ht 8
    have f8 := blk_frozen ht 8
    simp at t8
    have t9 := blk_cell ht 9
    have f9 := blk_frozen ht 9
    simp at t9
    clear ht
    go_wp2
    exact endT (r := (⟨0, 0, v, ds, 3, 0, 0, 0, 0, []⟩, 0)) _ rfl rfl HT5.out (HR3.out) (nilR) HB5.out (put10_blk w5 w.heap.size _ _ _ _ _ _ _ _ _ _ _ (.int .i64 0) (.int .i64 0) (.int .i64 v) (.slice A7 ds.length c7) (.int .i64 3) (.int .i64 0) (.int .i64 0) (.int .i64 0) (.int .i64 0) (.slice none 0 0) HT5.out)
end Go.Proofs.Yteikgpdjfhdneaa.Man
namespace Go.Proofs.Yteikgpdjfhdneaa.Man
open Go.RowKit Go.Proofs.Yteikgpdjfhdneaa.QT Go.Proofs.Yteikgpdjfhdneaa.QK Go.Proofs.YteikgpdjfhdneaaW.PrintWords Go.Proofs.YteikgpdjfhdneaaW.PrintLast Go.Proofs.YteikgpdjfhdneaaW.PrintMore
set_option maxHeartbeats 8000000 in
set_option maxRecDepth 100000 in
theorem rt2_none (k : Nat) (a0 : ByteArray) (w : World) (xs : List Int) (hl : tollbarref1_List.f k a0 = some (xs, 0)) (hb : xs.length ≤ 1099511627776) (hpos : 0 < xs.length) (hk : rd xs 0 = 2) (hg : grantQ (xs.drop 1) = none) :
    Calls Try.prog 31 #[.string a0] w (ReadPost w (nilRp, 2300)) := by
  generalize hds : xs.drop 1 = ds at hg
  have hdl : ds.length ≤ 1099511627776 := by rw [← hds, List.length_drop]; omega
  obtain ⟨i3, hi3, hz3⟩ := Option.map_eq_some_iff.1 info3
  have hs3 : i3.size = 1 := by simp only [Prod.mk.injEq] at hz3; exact hz3.2.1
  have HL := Lib.hid (tollbarref1_List.calls k a0 xs 0 (w.alloc (.cells #[.int .i64 0, .int .i64 0, .int .i64 0, .slice none 0 0, .int .i64 0, .int .i64 0, .int .i64 0, .int .i64 0, .int .i64 0, .slice none 0 0] 48 (0, 0))) hl)
  clear hl
  go_enter Try.func31, Try.ntmps31
  go_wp2_with fail
  refine HL.out.mono ?_
  rintro e w1 ⟨v0, rfl, HX, HB⟩
  obtain ⟨A, c, rfl, hlc, hC, hb0, hB0, hlt0⟩ := armL_ HX HB
  have HB0 := Lib.hid hB0
  have HT1 := Lib.hid hb0
  have HC := Lib.hid hC
  clear HX HB hB0 hb0 hC
  obtain ⟨ad, e0, x0⟩ := Kd.at_int HC.out 0 (by omega) (by omega)
  subst e0
  have x0 : w1.cell? ad = some (.int .i64 (rd xs 0)) := by simpa [Addr.add] using x0
  have hadl : ad.block < w1.heap.size := World.block_lt_of_cell? _ _ x0
  rw [hk] at x0
  obtain ⟨A', hd, hrd, hle⟩ := print_drop_of (P := Try.prog) (fun x : Int => Value.int .i64 x) 0 43 3 .i64 Try.underlying43 hi3 hs3 (some ad) c xs 1 (by decide) (by omega) hlc
  have hCd : Hid (Kd.C (Kd.int .i64) w1 A' (xs.drop 1).length (xs.drop 1)) := Lib.hid (Kd.C_of_reads (hrd w1 (Kd.reads_of_C (d := (0 : Int)) HC.out)))
  simp only [show (1 : Int).toNat = 1 from rfl] at hd hCd hle
  rw [hds] at hd hCd hle
  clear hrd hi3 hz3 hs3
  have HT2 := Lib.hid (blk_alloc HT1.out (.cells #[.int .i64 0, .int .i64 0, .int .i64 0, .slice none 0 0, .int .i64 2, .int .i64 0, .int .i64 0, .int .i64 0, .int .i64 0, .slice none 0 0] 48 (0, 0)))
  have HX2 := Lib.hid (blk_new w1 (.cells #[.int .i64 0, .int .i64 0, .int .i64 0, .slice none 0 0, .int .i64 2, .int .i64 0, .int .i64 0, .int .i64 0, .int .i64 0, .slice none 0 0] 48 (0, 0)))
  have HB2 := Lib.hid (HB0.out.alloc HB0.out.size (.cells #[.int .i64 0, .int .i64 0, .int .i64 0, .slice none 0 0, .int .i64 2, .int .i64 0, .int .i64 0, .int .i64 0, .int .i64 0, .slice none 0 0] 48 (0, 0)))
  have HZ := readGrant_is A' (c - 1) ds (w1.alloc (.cells #[.int .i64 0, .int .i64 0, .int .i64 0, .slice none 0 0, .int .i64 2, .int .i64 0, .int .i64 0, .int .i64 0, .int .i64 0, .slice none 0 0] 48 (0, 0))) hle hdl (Kd.C_alloc hCd.out _)
  rw [hg] at HZ
  have HZ := Lib.hid HZ
  clear HC HT1 HB0 hCd
  go_wp2_with fail
  refine HZ.out.mono ?_
  rintro e w3 ⟨rfl, hb3⟩
  obtain ⟨rb, hrb⟩ : ∃ rb, w1.heap.size = rb := ⟨_, rfl⟩
  have HT3 := Lib.hid (blk_below HT2.out hb3)
  have hx3 := blk_below HX2.out hb3
  have HB3 := Lib.hid (below_then HB2.out HB2.out.size hb3)
  have hs3 : w.heap.size ≤ (w1.alloc (.cells #[.int .i64 0, .int .i64 0, .int .i64 0, .slice none 0 0, .int .i64 2, .int .i64 0, .int .i64 0, .int .i64 0, .int .i64 0, .slice none 0 0] 48 (0, 0))).heap.size := HB2.out.size
  rw [hrb] at hx3 hadl hlt0 ⊢
  have HX3 := Lib.hid hx3
  have e0_ := blk_cell hx3 0
  have f0_ := blk_frozen hx3 0
  simp at e0_
  have e1_ := blk_cell hx3 1
  have f1_ := blk_frozen hx3 1
  simp at e1_
  have e2_ := blk_cell hx3 2
  have f2_ := blk_frozen hx3 2
  simp at e2_
  have e3_ := blk_cell hx3 3
  have f3_ := blk_frozen hx3 3
  simp at e3_
  have e4_ := blk_cell hx3 4
  have f4_ := blk_frozen hx3 4
  simp at e4_
  have e5_ := blk_cell hx3 5
  have f5_ := blk_frozen hx3 5
  simp at e5_
  have e6_ := blk_cell hx3 6
  have f6_ := blk_frozen hx3 6
  simp at e6_
  have e7_ := blk_cell hx3 7
  have f7_ := blk_frozen hx3 7
  simp at e7_
  have e8_ := blk_cell hx3 8
  have f8_ := blk_frozen hx3 8
  simp at e8_
  have e9_ := blk_cell hx3 9
  have f9_ := blk_frozen hx3 9
  simp at e9_
  have HPU := put10_blk w3 rb _ _ _ _ _ _ _ _ _ _ _ (.int .i64 0) (.int .i64 0) (.int .i64 0) (.slice none 0 0) (.int .i64 0) (.int .i64 0) (.int .i64 0) (.int .i64 0) (.int .i64 0) (.slice none 0 0) HX3.out
  clear HT2 HX2 HB2 HZ hb3 hx3 x0 hrb hs3
  go_upto_region 23 with fail
  have hne8 : w.heap.size ≠ rb := by omega
  generalize ((((((((((w3.setCell ⟨rb, 0, none⟩ (.int .i64 0)).setCell ⟨rb, 1, none⟩ (.int .i64 0)).setCell ⟨rb, 2, none⟩ (.int .i64 0)).setCell ⟨rb, 3, none⟩ (.slice none 0 0)).setCell ⟨rb, 4, none⟩ (.int .i64 0)).setCell ⟨rb, 5, none⟩ (.int .i64 0)).setCell ⟨rb, 6, none⟩ (.int .i64 0)).setCell ⟨rb, 7, none⟩ (.int .i64 0)).setCell ⟨rb, 8, none⟩ (.int .i64 0)).setCell ⟨rb, 9, none⟩ (.slice none 0 0)) = W8 at HPU ⊢
  have HT8 : Hid (W8.heap[w.heap.size]? = some (.cells #[.int .i64 0, .int .i64 0, .int .i64 0, .slice none 0 0, .int .i64 0, .int .i64 0, .int .i64 0, .int .i64 0, .int .i64 0, .slice none 0 0] 48 (0, 0))) := Lib.hid (blk_grown HT3.out HPU.2 (by simpa using hne8))
  have HB8 : Hid (Below w.heap.size w W8) := Lib.hid (HB3.out.grown HPU.2 HB3.out.size (fun k e => by injection e with e; omega))
  have HX8 := Lib.hid HPU.1
  clear HPU HT3 HB3 HX3 e0_ f0_ e1_ f1_ e2_ f2_ e3_ f3_ e4_ f4_ e5_ f5_ e6_ f6_ e7_ f7_ e8_ f8_ e9_ f9_
  skip
  have ht := HT8.out
  have t0 := blk_cell ht 0
  have f0 := blk_frozen ht 0
  simp at t0
  have t1 := blk_cell ht 1
  have f1 := blk_frozen ht 1
  simp at t1
  have t2 := blk_cell ht 2
  have f2 := blk_frozen ht 2
  simp at t2
  have t3 := blk_cell ht 3
  have f3 := blk_frozen ht 3
  simp at t3
  have t4 := blk_cell ht 4
  have f4 := blk_frozen ht 4
  simp at t4
  have t5 := blk_cell ht 5
  have f5 := blk_frozen ht 5
  simp at t5
  have t6 := blk_cell ht 6
  have f6 := blk_frozen ht 6
  simp at t6
  have t7 := blk_cell ht 7
  have f7 := blk_frozen ht 7
  simp at t7
  have t8 := blk_cell ht 8
  have f8 := blk_frozen ht 8
  simp at t8
  have t9 := blk_cell ht 9
  have f9 := blk_frozen ht 9
  simp at t9
  clear ht
  go_wp2
  exact endT (r := (nilRp, 2300)) (v3 := .slice none 0 0) (v9 := .slice none 0 0) _ rfl rfl HT8.out (Kd.R_nil _ _ _ _ _) nilR HB8.out (put10_blk W8 w.heap.size _ _ _ _ _ _ _ _ _ _ _ (.int .i64 0) (.int .i64 0) (.int .i64 0) (.slice none 0 0) (.int .i64 0) (.int .i64 0) (.int .i64 0) (.int .i64 0) (.int .i64 0) (.slice none 0 0) HT8.out)
set_option maxHeartbeats 8000000 in
set_option maxRecDepth 100000 in
theorem rt2_left (k : Nat) (a0 : ByteArray) (w : World) (xs : List Int) (hl : tollbarref1_List.f k a0 = some (xs, 0)) (hb : xs.length ≤ 1099511627776) (hpos : 0 < xs.length) (hk : rd xs 0 = 2) (fr to_ id rate : Int) (ps : List Pce) (y : Int) (ys : List Int) (hg : grantQ (xs.drop 1) = some (⟨fr, to_, 0, [], 2, 0, id, rate, 0, ps⟩, y :: ys)) :
    Calls Try.prog 31 #[.string a0] w (ReadPost w (nilRp, 2300)) := by
  generalize hds : xs.drop 1 = ds at hg
  have hdl : ds.length ≤ 1099511627776 := by rw [← hds, List.length_drop]; omega
  obtain ⟨i3, hi3, hz3⟩ := Option.map_eq_some_iff.1 info3
  have hs3 : i3.size = 1 := by simp only [Prod.mk.injEq] at hz3; exact hz3.2.1
  have HL := Lib.hid (tollbarref1_List.calls k a0 xs 0 (w.alloc (.cells #[.int .i64 0, .int .i64 0, .int .i64 0, .slice none 0 0, .int .i64 0, .int .i64 0, .int .i64 0, .int .i64 0, .int .i64 0, .slice none 0 0] 48 (0, 0))) hl)
  clear hl
  go_enter Try.func31, Try.ntmps31
  go_wp2_with fail
  refine HL.out.mono ?_
  rintro e w1 ⟨v0, rfl, HX, HB⟩
  obtain ⟨A, c, rfl, hlc, hC, hb0, hB0, hlt0⟩ := armL_ HX HB
  have HB0 := Lib.hid hB0
  have HT1 := Lib.hid hb0
  have HC := Lib.hid hC
  clear HX HB hB0 hb0 hC
  obtain ⟨ad, e0, x0⟩ := Kd.at_int HC.out 0 (by omega) (by omega)
  subst e0
  have x0 : w1.cell? ad = some (.int .i64 (rd xs 0)) := by simpa [Addr.add] using x0
  have hadl : ad.block < w1.heap.size := World.block_lt_of_cell? _ _ x0
  rw [hk] at x0
  obtain ⟨A', hd, hrd, hle⟩ := print_drop_of (P := Try.prog) (fun x : Int => Value.int .i64 x) 0 43 3 .i64 Try.underlying43 hi3 hs3 (some ad) c xs 1 (by decide) (by omega) hlc
  have hCd : Hid (Kd.C (Kd.int .i64) w1 A' (xs.drop 1).length (xs.drop 1)) := Lib.hid (Kd.C_of_reads (hrd w1 (Kd.reads_of_C (d := (0 : Int)) HC.out)))
  simp only [show (1 : Int).toNat = 1 from rfl] at hd hCd hle
  rw [hds] at hd hCd hle
  clear hrd hi3 hz3 hs3
  have HT2 := Lib.hid (blk_alloc HT1.out (.cells #[.int .i64 0, .int .i64 0, .int .i64 0, .slice none 0 0, .int .i64 2, .int .i64 0, .int .i64 0, .int .i64 0, .int .i64 0, .slice none 0 0] 48 (0, 0)))
  have HX2 := Lib.hid (blk_new w1 (.cells #[.int .i64 0, .int .i64 0, .int .i64 0, .slice none 0 0, .int .i64 2, .int .i64 0, .int .i64 0, .int .i64 0, .int .i64 0, .slice none 0 0] 48 (0, 0)))
  have HB2 := Lib.hid (HB0.out.alloc HB0.out.size (.cells #[.int .i64 0, .int .i64 0, .int .i64 0, .slice none 0 0, .int .i64 2, .int .i64 0, .int .i64 0, .int .i64 0, .int .i64 0, .slice none 0 0] 48 (0, 0)))
  have HZ := readGrant_is A' (c - 1) ds (w1.alloc (.cells #[.int .i64 0, .int .i64 0, .int .i64 0, .slice none 0 0, .int .i64 2, .int .i64 0, .int .i64 0, .int .i64 0, .int .i64 0, .slice none 0 0] 48 (0, 0))) hle hdl (Kd.C_alloc hCd.out _)
  rw [hg] at HZ
  have HZ := Lib.hid HZ
  clear HC HT1 HB0 hCd
  go_wp2_with fail
  refine HZ.out.mono ?_
  rintro e w3 ⟨v9, rfl, h9, hb3⟩
  dsimp only at h9 ⊢
  obtain ⟨rb, hrb⟩ : ∃ rb, w1.heap.size = rb := ⟨_, rfl⟩
  have HT3 := Lib.hid (blk_below HT2.out hb3)
  have hx3 := blk_below HX2.out hb3
  have HB3 := Lib.hid (below_then HB2.out HB2.out.size hb3)
  have hs3 : w.heap.size ≤ (w1.alloc (.cells #[.int .i64 0, .int .i64 0, .int .i64 0, .slice none 0 0, .int .i64 2, .int .i64 0, .int .i64 0, .int .i64 0, .int .i64 0, .slice none 0 0] 48 (0, 0))).heap.size := HB2.out.size
  obtain ⟨A9, c9, rfl⟩ := Kd.R_slice h9
  have H9 := Lib.hid (Kd.R_lower h9 hs3)
  clear h9
  rw [hrb] at hx3 hadl hlt0 ⊢
  have HX3 := Lib.hid hx3
  have e0_ := blk_cell hx3 0
  have f0_ := blk_frozen hx3 0
  simp at e0_
  have e1_ := blk_cell hx3 1
  have f1_ := blk_frozen hx3 1
  simp at e1_
  have e2_ := blk_cell hx3 2
  have f2_ := blk_frozen hx3 2
  simp at e2_
  have e3_ := blk_cell hx3 3
  have f3_ := blk_frozen hx3 3
  simp at e3_
  have e4_ := blk_cell hx3 4
  have f4_ := blk_frozen hx3 4
  simp at e4_
  have e5_ := blk_cell hx3 5
  have f5_ := blk_frozen hx3 5
  simp at e5_
  have e6_ := blk_cell hx3 6
  have f6_ := blk_frozen hx3 6
  simp at e6_
  have e7_ := blk_cell hx3 7
  have f7_ := blk_frozen hx3 7
  simp at e7_
  have e8_ := blk_cell hx3 8
  have f8_ := blk_frozen hx3 8
  simp at e8_
  have e9_ := blk_cell hx3 9
  have f9_ := blk_frozen hx3 9
  simp at e9_
  have HPU := put10_blk w3 rb _ _ _ _ _ _ _ _ _ _ _ (.int .i64 fr) (.int .i64 to_) (.int .i64 0) (.slice none 0 0) (.int .i64 2) (.int .i64 0) (.int .i64 id) (.int .i64 rate) (.int .i64 0) (.slice A9 ps.length c9) HX3.out
  clear HT2 HX2 HB2 HZ hb3 hx3 x0 hrb hs3
  go_upto_region 23 with fail
  have hne8 : w.heap.size ≠ rb := by omega
  generalize ((((((((((w3.setCell ⟨rb, 0, none⟩ (.int .i64 fr)).setCell ⟨rb, 1, none⟩ (.int .i64 to_)).setCell ⟨rb, 2, none⟩ (.int .i64 0)).setCell ⟨rb, 3, none⟩ (.slice none 0 0)).setCell ⟨rb, 4, none⟩ (.int .i64 2)).setCell ⟨rb, 5, none⟩ (.int .i64 0)).setCell ⟨rb, 6, none⟩ (.int .i64 id)).setCell ⟨rb, 7, none⟩ (.int .i64 rate)).setCell ⟨rb, 8, none⟩ (.int .i64 0)).setCell ⟨rb, 9, none⟩ (.slice A9 ps.length c9)) = W8 at HPU ⊢
  have HT8 : Hid (W8.heap[w.heap.size]? = some (.cells #[.int .i64 0, .int .i64 0, .int .i64 0, .slice none 0 0, .int .i64 0, .int .i64 0, .int .i64 0, .int .i64 0, .int .i64 0, .slice none 0 0] 48 (0, 0))) := Lib.hid (blk_grown HT3.out HPU.2 (by simpa using hne8))
  have HB8 : Hid (Below w.heap.size w W8) := Lib.hid (HB3.out.grown HPU.2 HB3.out.size (fun k e => by injection e with e; omega))
  have HR8 : Hid (Kd.R k76 76 W8 w.heap.size (fun _ => True) (.slice A9 ps.length c9) ps) := Lib.hid (keepR H9.out HX3.out HPU.2 (by decide))
  have HX8 := Lib.hid HPU.1
  clear HPU HT3 HB3 HX3 H9 e0_ f0_ e1_ f1_ e2_ f2_ e3_ f3_ e4_ f4_ e5_ f5_ e6_ f6_ e7_ f7_ e8_ f8_ e9_ f9_
  skip
  have ht := HT8.out
  have t0 := blk_cell ht 0
  have f0 := blk_frozen ht 0
  simp at t0
  have t1 := blk_cell ht 1
  have f1 := blk_frozen ht 1
  simp at t1
  have t2 := blk_cell ht 2
  have f2 := blk_frozen ht 2
  simp at t2
  have t3 := blk_cell ht 3
  have f3 := blk_frozen ht 3
  simp at t3
  have t4 := blk_cell ht 4
  have f4 := blk_frozen ht 4
  simp at t4
  have t5 := blk_cell ht 5
  have f5 := blk_frozen ht 5
  simp at t5
  have t6 := blk_cell ht 6
  have f6 := blk_frozen ht 6
  simp at t6
  have t7 := blk_cell ht 7
  have f7 := blk_frozen ht 7
  simp at t7
  have t8 := blk_cell ht 8
  have f8 := blk_frozen ht 8
  simp at t8
  have t9 := blk_cell ht 9
  have f9 := blk_frozen ht 9
  simp at t9
  clear ht
  go_wp2
  exact endT (r := (nilRp, 2300)) (v3 := .slice none 0 0) (v9 := .slice none 0 0) _ rfl rfl HT8.out (Kd.R_nil _ _ _ _ _) nilR HB8.out (put10_blk W8 w.heap.size _ _ _ _ _ _ _ _ _ _ _ (.int .i64 0) (.int .i64 0) (.int .i64 0) (.slice none 0 0) (.int .i64 0) (.int .i64 0) (.int .i64 0) (.int .i64 0) (.int .i64 0) (.slice none 0 0) HT8.out)
set_option maxHeartbeats 8000000 in
set_option maxRecDepth 100000 in
theorem rt2_false (k : Nat) (a0 : ByteArray) (w : World) (xs : List Int) (hl : tollbarref1_List.f k a0 = some (xs, 0)) (hb : xs.length ≤ 1099511627776) (hpos : 0 < xs.length) (hk : rd xs 0 = 2) (fr to_ id rate : Int) (ps : List Pce) (hg : grantQ (xs.drop 1) = some (⟨fr, to_, 0, [], 2, 0, id, rate, 0, ps⟩, [])) (hm : tollbarref22_ReplyMay.f k fr to_ 0 [] 2 0 id rate 0 ps = some false) :
    Calls Try.prog 31 #[.string a0] w (ReadPost w (nilRp, 2300)) := by
  generalize hds : xs.drop 1 = ds at hg
  have hdl : ds.length ≤ 1099511627776 := by rw [← hds, List.length_drop]; omega
  obtain ⟨i3, hi3, hz3⟩ := Option.map_eq_some_iff.1 info3
  have hs3 : i3.size = 1 := by simp only [Prod.mk.injEq] at hz3; exact hz3.2.1
  have HL := Lib.hid (tollbarref1_List.calls k a0 xs 0 (w.alloc (.cells #[.int .i64 0, .int .i64 0, .int .i64 0, .slice none 0 0, .int .i64 0, .int .i64 0, .int .i64 0, .int .i64 0, .int .i64 0, .slice none 0 0] 48 (0, 0))) hl)
  clear hl
  go_enter Try.func31, Try.ntmps31
  go_wp2_with fail
  refine HL.out.mono ?_
  rintro e w1 ⟨v0, rfl, HX, HB⟩
  obtain ⟨A, c, rfl, hlc, hC, hb0, hB0, hlt0⟩ := armL_ HX HB
  have HB0 := Lib.hid hB0
  have HT1 := Lib.hid hb0
  have HC := Lib.hid hC
  clear HX HB hB0 hb0 hC
  obtain ⟨ad, e0, x0⟩ := Kd.at_int HC.out 0 (by omega) (by omega)
  subst e0
  have x0 : w1.cell? ad = some (.int .i64 (rd xs 0)) := by simpa [Addr.add] using x0
  have hadl : ad.block < w1.heap.size := World.block_lt_of_cell? _ _ x0
  rw [hk] at x0
  obtain ⟨A', hd, hrd, hle⟩ := print_drop_of (P := Try.prog) (fun x : Int => Value.int .i64 x) 0 43 3 .i64 Try.underlying43 hi3 hs3 (some ad) c xs 1 (by decide) (by omega) hlc
  have hCd : Hid (Kd.C (Kd.int .i64) w1 A' (xs.drop 1).length (xs.drop 1)) := Lib.hid (Kd.C_of_reads (hrd w1 (Kd.reads_of_C (d := (0 : Int)) HC.out)))
  simp only [show (1 : Int).toNat = 1 from rfl] at hd hCd hle
  rw [hds] at hd hCd hle
  clear hrd hi3 hz3 hs3
  have HT2 := Lib.hid (blk_alloc HT1.out (.cells #[.int .i64 0, .int .i64 0, .int .i64 0, .slice none 0 0, .int .i64 2, .int .i64 0, .int .i64 0, .int .i64 0, .int .i64 0, .slice none 0 0] 48 (0, 0)))
  have HX2 := Lib.hid (blk_new w1 (.cells #[.int .i64 0, .int .i64 0, .int .i64 0, .slice none 0 0, .int .i64 2, .int .i64 0, .int .i64 0, .int .i64 0, .int .i64 0, .slice none 0 0] 48 (0, 0)))
  have HB2 := Lib.hid (HB0.out.alloc HB0.out.size (.cells #[.int .i64 0, .int .i64 0, .int .i64 0, .slice none 0 0, .int .i64 2, .int .i64 0, .int .i64 0, .int .i64 0, .int .i64 0, .slice none 0 0] 48 (0, 0)))
  have HZ := readGrant_is A' (c - 1) ds (w1.alloc (.cells #[.int .i64 0, .int .i64 0, .int .i64 0, .slice none 0 0, .int .i64 2, .int .i64 0, .int .i64 0, .int .i64 0, .int .i64 0, .slice none 0 0] 48 (0, 0))) hle hdl (Kd.C_alloc hCd.out _)
  rw [hg] at HZ
  have HZ := Lib.hid HZ
  clear HC HT1 HB0 hCd
  go_wp2_with fail
  refine HZ.out.mono ?_
  rintro e w3 ⟨v9, rfl, h9, hb3⟩
  dsimp only at h9 ⊢
  obtain ⟨rb, hrb⟩ : ∃ rb, w1.heap.size = rb := ⟨_, rfl⟩
  have HT3 := Lib.hid (blk_below HT2.out hb3)
  have hx3 := blk_below HX2.out hb3
  have HB3 := Lib.hid (below_then HB2.out HB2.out.size hb3)
  have hs3 : w.heap.size ≤ (w1.alloc (.cells #[.int .i64 0, .int .i64 0, .int .i64 0, .slice none 0 0, .int .i64 2, .int .i64 0, .int .i64 0, .int .i64 0, .int .i64 0, .slice none 0 0] 48 (0, 0))).heap.size := HB2.out.size
  obtain ⟨A9, c9, rfl⟩ := Kd.R_slice h9
  have H9 := Lib.hid (Kd.R_lower h9 hs3)
  clear h9
  rw [hrb] at hx3 hadl hlt0 ⊢
  have HX3 := Lib.hid hx3
  have e0_ := blk_cell hx3 0
  have f0_ := blk_frozen hx3 0
  simp at e0_
  have e1_ := blk_cell hx3 1
  have f1_ := blk_frozen hx3 1
  simp at e1_
  have e2_ := blk_cell hx3 2
  have f2_ := blk_frozen hx3 2
  simp at e2_
  have e3_ := blk_cell hx3 3
  have f3_ := blk_frozen hx3 3
  simp at e3_
  have e4_ := blk_cell hx3 4
  have f4_ := blk_frozen hx3 4
  simp at e4_
  have e5_ := blk_cell hx3 5
  have f5_ := blk_frozen hx3 5
  simp at e5_
  have e6_ := blk_cell hx3 6
  have f6_ := blk_frozen hx3 6
  simp at e6_
  have e7_ := blk_cell hx3 7
  have f7_ := blk_frozen hx3 7
  simp at e7_
  have e8_ := blk_cell hx3 8
  have f8_ := blk_frozen hx3 8
  simp at e8_
  have e9_ := blk_cell hx3 9
  have f9_ := blk_frozen hx3 9
  simp at e9_
  have HPU := put10_blk w3 rb _ _ _ _ _ _ _ _ _ _ _ (.int .i64 fr) (.int .i64 to_) (.int .i64 0) (.slice none 0 0) (.int .i64 2) (.int .i64 0) (.int .i64 id) (.int .i64 rate) (.int .i64 0) (.slice A9 ps.length c9) HX3.out
  clear HT2 HX2 HB2 HZ hb3 hx3 x0 hrb hs3
  go_upto_region 23 with fail
  have hne8 : w.heap.size ≠ rb := by omega
  generalize ((((((((((w3.setCell ⟨rb, 0, none⟩ (.int .i64 fr)).setCell ⟨rb, 1, none⟩ (.int .i64 to_)).setCell ⟨rb, 2, none⟩ (.int .i64 0)).setCell ⟨rb, 3, none⟩ (.slice none 0 0)).setCell ⟨rb, 4, none⟩ (.int .i64 2)).setCell ⟨rb, 5, none⟩ (.int .i64 0)).setCell ⟨rb, 6, none⟩ (.int .i64 id)).setCell ⟨rb, 7, none⟩ (.int .i64 rate)).setCell ⟨rb, 8, none⟩ (.int .i64 0)).setCell ⟨rb, 9, none⟩ (.slice A9 ps.length c9)) = W8 at HPU ⊢
  have HT8 : Hid (W8.heap[w.heap.size]? = some (.cells #[.int .i64 0, .int .i64 0, .int .i64 0, .slice none 0 0, .int .i64 0, .int .i64 0, .int .i64 0, .int .i64 0, .int .i64 0, .slice none 0 0] 48 (0, 0))) := Lib.hid (blk_grown HT3.out HPU.2 (by simpa using hne8))
  have HB8 : Hid (Below w.heap.size w W8) := Lib.hid (HB3.out.grown HPU.2 HB3.out.size (fun k e => by injection e with e; omega))
  have HR8 : Hid (Kd.R k76 76 W8 w.heap.size (fun _ => True) (.slice A9 ps.length c9) ps) := Lib.hid (keepR H9.out HX3.out HPU.2 (by decide))
  have HX8 := Lib.hid HPU.1
  clear HPU HT3 HB3 HX3 H9 e0_ f0_ e1_ f1_ e2_ f2_ e3_ f3_ e4_ f4_ e5_ f5_ e6_ f6_ e7_ f7_ e8_ f8_ e9_ f9_
  obtain ⟨A8, c8, e8, hc8, hC8⟩ := Kd.R_reads HR8.out
  obtain ⟨rfl, rfl⟩ : A9 = A8 ∧ c9 = c8 := by injection e8 with e81 e82 e83; exact ⟨e81, e83⟩
  have HC8 := Lib.hid hC8
  have hh := HX8.out
  clear hC8 e8
  have q0 := blk_cell hh 0
  simp at q0
  have q1 := blk_cell hh 1
  simp at q1
  have q2 := blk_cell hh 2
  simp at q2
  have q3 := blk_cell hh 3
  simp at q3
  have q4 := blk_cell hh 4
  simp at q4
  have q5 := blk_cell hh 5
  simp at q5
  have q6 := blk_cell hh 6
  simp at q6
  have q7 := blk_cell hh 7
  simp at q7
  have q8 := blk_cell hh 8
  simp at q8
  have q9 := blk_cell hh 9
  simp at q9
  clear hh
  go_wp2_with fail
  refine (tollbarref22_ReplyMay.calls k fr to_ 0 none 0 [] 2 0 id rate 0 A9 c9 ps false _ (Kd.C_nil _ _) (Nat.le_refl _) HC8.out hc8 hm).mono ?_
  rintro e w5 ⟨rfl, hb5⟩
  have HT5 := Lib.hid (blk_below HT8.out hb5)
  have HB5 := Lib.hid (below_then HB8.out HB8.out.size hb5)
  clear hb5
  have ht := HT5.out
  have t0 := blk_cell ht 0
  have f0 := blk_frozen ht 0
  simp at t0
  have t1 := blk_cell ht 1
  have f1 := blk_frozen ht 1
  simp at t1
  have t2 := blk_cell ht 2
  have f2 := blk_frozen ht 2
  simp at t2
  have t3 := blk_cell ht 3
  have f3 := blk_frozen ht 3
  simp at t3
  have t4 := blk_cell ht 4
  have f4 := blk_frozen ht 4
  simp at t4
  have t5 := blk_cell ht 5
  have f5 := blk_frozen ht 5
  simp at t5
  have t6 := blk_cell ht 6
  have f6 := blk_frozen ht 6
  simp at t6
  have t7 := blk_cell ht 7
  have f7 := blk_frozen ht 7
  simp at t7
  have t8 := blk_cell ht 8
  have f8 := blk_frozen ht 8
  simp at t8
  have t9 := blk_cell ht 9
  have f9 := blk_frozen ht 9
  simp at t9
  clear ht
  go_wp2
  exact endT (r := (nilRp, 2300)) (v3 := .slice none 0 0) (v9 := .slice none 0 0) _ rfl rfl HT5.out (Kd.R_nil _ _ _ _ _) nilR HB5.out (put10_blk w5 w.heap.size _ _ _ _ _ _ _ _ _ _ _ (.int .i64 0) (.int .i64 0) (.int .i64 0) (.slice none 0 0) (.int .i64 0) (.int .i64 0) (.int .i64 0) (.int .i64 0) (.int .i64 0) (.slice none 0 0) HT5.out)
set_option maxHeartbeats 8000000 in
set_option maxRecDepth 100000 in
theorem rt2_true (k : Nat) (a0 : ByteArray) (w : World) (xs : List Int) (hl : tollbarref1_List.f k a0 = some (xs, 0)) (hb : xs.length ≤ 1099511627776) (hpos : 0 < xs.length) (hk : rd xs 0 = 2) (fr to_ id rate : Int) (ps : List Pce) (hg : grantQ (xs.drop 1) = some (⟨fr, to_, 0, [], 2, 0, id, rate, 0, ps⟩, [])) (hm : tollbarref22_ReplyMay.f k fr to_ 0 [] 2 0 id rate 0 ps = some true) :
    Calls Try.prog 31 #[.string a0] w (ReadPost w (⟨fr, to_, 0, [], 2, 0, id, rate, 0, ps⟩, 0)) := by
  generalize hds : xs.drop 1 = ds at hg
  have hdl : ds.length ≤ 1099511627776 := by rw [← hds, List.length_drop]; omega
  obtain ⟨i3, hi3, hz3⟩ := Option.map_eq_some_iff.1 info3
  have hs3 : i3.size = 1 := by simp only [Prod.mk.injEq] at hz3; exact hz3.2.1
  have HL := Lib.hid (tollbarref1_List.calls k a0 xs 0 (w.alloc (.cells #[.int .i64 0, .int .i64 0, .int .i64 0, .slice none 0 0, .int .i64 0, .int .i64 0, .int .i64 0, .int .i64 0, .int .i64 0, .slice none 0 0] 48 (0, 0))) hl)
  clear hl
  go_enter Try.func31, Try.ntmps31
  go_wp2_with fail
  refine HL.out.mono ?_
  rintro e w1 ⟨v0, rfl, HX, HB⟩
  obtain ⟨A, c, rfl, hlc, hC, hb0, hB0, hlt0⟩ := armL_ HX HB
  have HB0 := Lib.hid hB0
  have HT1 := Lib.hid hb0
  have HC := Lib.hid hC
  clear HX HB hB0 hb0 hC
  obtain ⟨ad, e0, x0⟩ := Kd.at_int HC.out 0 (by omega) (by omega)
  subst e0
  have x0 : w1.cell? ad = some (.int .i64 (rd xs 0)) := by simpa [Addr.add] using x0
  have hadl : ad.block < w1.heap.size := World.block_lt_of_cell? _ _ x0
  rw [hk] at x0
  obtain ⟨A', hd, hrd, hle⟩ := print_drop_of (P := Try.prog) (fun x : Int => Value.int .i64 x) 0 43 3 .i64 Try.underlying43 hi3 hs3 (some ad) c xs 1 (by decide) (by omega) hlc
  have hCd : Hid (Kd.C (Kd.int .i64) w1 A' (xs.drop 1).length (xs.drop 1)) := Lib.hid (Kd.C_of_reads (hrd w1 (Kd.reads_of_C (d := (0 : Int)) HC.out)))
  simp only [show (1 : Int).toNat = 1 from rfl] at hd hCd hle
  rw [hds] at hd hCd hle
  clear hrd hi3 hz3 hs3
  have HT2 := Lib.hid (blk_alloc HT1.out (.cells #[.int .i64 0, .int .i64 0, .int .i64 0, .slice none 0 0, .int .i64 2, .int .i64 0, .int .i64 0, .int .i64 0, .int .i64 0, .slice none 0 0] 48 (0, 0)))
  have HX2 := Lib.hid (blk_new w1 (.cells #[.int .i64 0, .int .i64 0, .int .i64 0, .slice none 0 0, .int .i64 2, .int .i64 0, .int .i64 0, .int .i64 0, .int .i64 0, .slice none 0 0] 48 (0, 0)))
  have HB2 := Lib.hid (HB0.out.alloc HB0.out.size (.cells #[.int .i64 0, .int .i64 0, .int .i64 0, .slice none 0 0, .int .i64 2, .int .i64 0, .int .i64 0, .int .i64 0, .int .i64 0, .slice none 0 0] 48 (0, 0)))
  have HZ := readGrant_is A' (c - 1) ds (w1.alloc (.cells #[.int .i64 0, .int .i64 0, .int .i64 0, .slice none 0 0, .int .i64 2, .int .i64 0, .int .i64 0, .int .i64 0, .int .i64 0, .slice none 0 0] 48 (0, 0))) hle hdl (Kd.C_alloc hCd.out _)
  rw [hg] at HZ
  have HZ := Lib.hid HZ
  clear HC HT1 HB0 hCd
  go_wp2_with fail
  refine HZ.out.mono ?_
  rintro e w3 ⟨v9, rfl, h9, hb3⟩
  dsimp only at h9 ⊢
  obtain ⟨rb, hrb⟩ : ∃ rb, w1.heap.size = rb := ⟨_, rfl⟩
  have HT3 := Lib.hid (blk_below HT2.out hb3)
  have hx3 := blk_below HX2.out hb3
  have HB3 := Lib.hid (below_then HB2.out HB2.out.size hb3)
  have hs3 : w.heap.size ≤ (w1.alloc (.cells #[.int .i64 0, .int .i64 0, .int .i64 0, .slice none 0 0, .int .i64 2, .int .i64 0, .int .i64 0, .int .i64 0, .int .i64 0, .slice none 0 0] 48 (0, 0))).heap.size := HB2.out.size
  obtain ⟨A9, c9, rfl⟩ := Kd.R_slice h9
  have H9 := Lib.hid (Kd.R_lower h9 hs3)
  clear h9
  rw [hrb] at hx3 hadl hlt0 ⊢
  have HX3 := Lib.hid hx3
  have e0_ := blk_cell hx3 0
  have f0_ := blk_frozen hx3 0
  simp at e0_
  have e1_ := blk_cell hx3 1
  have f1_ := blk_frozen hx3 1
  simp at e1_
  have e2_ := blk_cell hx3 2
  have f2_ := blk_frozen hx3 2
  simp at e2_
  have e3_ := blk_cell hx3 3
  have f3_ := blk_frozen hx3 3
  simp at e3_
  have e4_ := blk_cell hx3 4
  have f4_ := blk_frozen hx3 4
  simp at e4_
  have e5_ := blk_cell hx3 5
  have f5_ := blk_frozen hx3 5
  simp at e5_
  have e6_ := blk_cell hx3 6
  have f6_ := blk_frozen hx3 6
  simp at e6_
  have e7_ := blk_cell hx3 7
  have f7_ := blk_frozen hx3 7
  simp at e7_
  have e8_ := blk_cell hx3 8
  have f8_ := blk_frozen hx3 8
  simp at e8_
  have e9_ := blk_cell hx3 9
  have f9_ := blk_frozen hx3 9
  simp at e9_
  have HPU := put10_blk w3 rb _ _ _ _ _ _ _ _ _ _ _ (.int .i64 fr) (.int .i64 to_) (.int .i64 0) (.slice none 0 0) (.int .i64 2) (.int .i64 0) (.int .i64 id) (.int .i64 rate) (.int .i64 0) (.slice A9 ps.length c9) HX3.out
  clear HT2 HX2 HB2 HZ hb3 hx3 x0 hrb hs3
  go_upto_region 23 with fail
  have hne8 : w.heap.size ≠ rb := by omega
  generalize ((((((((((w3.setCell ⟨rb, 0, none⟩ (.int .i64 fr)).setCell ⟨rb, 1, none⟩ (.int .i64 to_)).setCell ⟨rb, 2, none⟩ (.int .i64 0)).setCell ⟨rb, 3, none⟩ (.slice none 0 0)).setCell ⟨rb, 4, none⟩ (.int .i64 2)).setCell ⟨rb, 5, none⟩ (.int .i64 0)).setCell ⟨rb, 6, none⟩ (.int .i64 id)).setCell ⟨rb, 7, none⟩ (.int .i64 rate)).setCell ⟨rb, 8, none⟩ (.int .i64 0)).setCell ⟨rb, 9, none⟩ (.slice A9 ps.length c9)) = W8 at HPU ⊢
  have HT8 : Hid (W8.heap[w.heap.size]? = some (.cells #[.int .i64 0, .int .i64 0, .int .i64 0, .slice none 0 0, .int .i64 0, .int .i64 0, .int .i64 0, .int .i64 0, .int .i64 0, .slice none 0 0] 48 (0, 0))) := Lib.hid (blk_grown HT3.out HPU.2 (by simpa using hne8))
  have HB8 : Hid (Below w.heap.size w W8) := Lib.hid (HB3.out.grown HPU.2 HB3.out.size (fun k e => by injection e with e; omega))
  have HR8 : Hid (Kd.R k76 76 W8 w.heap.size (fun _ => True) (.slice A9 ps.length c9) ps) := Lib.hid (keepR H9.out HX3.out HPU.2 (by decide))
  have HX8 := Lib.hid HPU.1
  clear HPU HT3 HB3 HX3 H9 e0_ f0_ e1_ f1_ e2_ f2_ e3_ f3_ e4_ f4_ e5_ f5_ e6_ f6_ e7_ f7_ e8_ f8_ e9_ f9_
  obtain ⟨A8, c8, e8, hc8, hC8⟩ := Kd.R_reads HR8.out
  obtain ⟨rfl, rfl⟩ : A9 = A8 ∧ c9 = c8 := by injection e8 with e81 e82 e83; exact ⟨e81, e83⟩
  have HC8 := Lib.hid hC8
  have hh := HX8.out
  clear hC8 e8
  have q0 := blk_cell hh 0
  simp at q0
  have q1 := blk_cell hh 1
  simp at q1
  have q2 := blk_cell hh 2
  simp at q2
  have q3 := blk_cell hh 3
  simp at q3
  have q4 := blk_cell hh 4
  simp at q4
  have q5 := blk_cell hh 5
  simp at q5
  have q6 := blk_cell hh 6
  simp at q6
  have q7 := blk_cell hh 7
  simp at q7
  have q8 := blk_cell hh 8
  simp at q8
  have q9 := blk_cell hh 9
  simp at q9
  clear hh
  go_wp2_with fail
  refine (tollbarref22_ReplyMay.calls k fr to_ 0 none 0 [] 2 0 id rate 0 A9 c9 ps true _ (Kd.C_nil _ _) (Nat.le_refl _) HC8.out hc8 hm).mono ?_
  rintro e w5 ⟨rfl, hb5⟩
  have HT5 := Lib.hid (blk_below HT8.out hb5)
  have HB5 := Lib.hid (below_then HB8.out HB8.out.size hb5)
  have HX5 := Lib.hid (blk_below HX8.out hb5)
  have HR9 := Lib.hid (Kd.R_below (Kd.R_mono (ok' := fun k => some k ≠ (Value.slice none 0 0).ownBlock) HR8.out (fun k _ => by simp [Value.ownBlock])) hb5)
  clear hb5
  have ht := HX5.out
  have p0 := blk_cell ht 0
  simp at p0
  have p1 := blk_cell ht 1
  simp at p1
  have p2 := blk_cell ht 2
  simp at p2
  have p3 := blk_cell ht 3
  simp at p3
  have p4 := blk_cell ht 4
  simp at p4
  have p5 := blk_cell ht 5
  simp at p5
  have p6 := blk_cell ht 6
  simp at p6
  have p7 := blk_cell ht 7
  simp at p7
  have p8 := blk_cell ht 8
  simp at p8
  have p9 := blk_cell ht 9
  simp at p9
  clear ht
  have ht := HT5.out
  have t0 := blk_cell ht 0
  have f0 := blk_frozen ht 0
  simp at t0
  have t1 := blk_cell ht 1
  have f1 := blk_frozen ht 1
  simp at t1
  have t2 := blk_cell ht 2
  have f2 := blk_frozen ht 2
  simp at t2
  have t3 := blk_cell ht 3
  have f3 := blk_frozen ht 3
  simp at t3
  have t4 := blk_cell ht 4
  have f4 := blk_frozen ht 4
  simp at t4
  have t5 := blk_cell ht 5
  have f5 := blk_frozen ht 5
  simp at t5
  have t6 := blk_cell ht 6
  have f6 := blk_frozen ht 6
  simp at t6
  have t7 := blk_cell ht 7
  have f7 := blk_frozen ht 7
  simp at t7
  have t8 := blk_cell ht 8
  have f8 := blk_frozen ht 8
  simp at t8
  have t9 := blk_cell ht 9
  have f9 := blk_frozen ht 9
  simp at t9
  clear ht
  go_wp2
  exact endT (r := (⟨fr, to_, 0, [], 2, 0, id, rate, 0, ps⟩, 0)) _ rfl rfl HT5.out (Kd.R_nil _ _ _ _ _) (HR9.out) HB5.out (put10_blk w5 w.heap.size _ _ _ _ _ _ _ _ _ _ _ (.int .i64 fr) (.int .i64 to_) (.int .i64 0) (.slice none 0 0) (.int .i64 2) (.int .i64 0) (.int .i64 id) (.int .i64 rate) (.int .i64 0) (.slice A9 ps.length c9) HT5.out)
end Go.Proofs.Yteikgpdjfhdneaa.Man
namespace Go.Proofs.Yteikgpdjfhdneaa.Man
open Go.RowKit Go.Proofs.Yteikgpdjfhdneaa.QT Go.Proofs.Yteikgpdjfhdneaa.QK Go.Proofs.YteikgpdjfhdneaaW.PrintWords Go.Proofs.YteikgpdjfhdneaaW.PrintLast Go.Proofs.YteikgpdjfhdneaaW.PrintMore
theorem rt_no (k : Nat) (a0 : ByteArray) (w : World) (xs : List Int) (hl : tollbarref1_List.f k a0 = some (xs, 0)) (hb : xs.length ≤ 1099511627776) (hpos : 0 < xs.length) (hq : tellQ xs = none) :
    Calls Try.prog 31 #[.string a0] w (ReadPost w (nilRp, 2300)) := by
  unfold tellQ at hq
  by_cases k1 : rd xs 0 = 1
  · rw [if_pos k1] at hq
    by_cases h : (xs.length : Int) = 2
    · rw [if_pos h] at hq; cases hq
    · exact rt1_no k a0 w xs hl hb hpos k1 h
  rw [if_neg k1] at hq
  by_cases k2 : rd xs 0 = 2
  · rw [if_pos k2] at hq
    cases hg : grantQ (xs.drop 1) with
    | none => exact rt2_none k a0 w xs hl hb hpos k2 hg
    | some p =>
      obtain ⟨r, left⟩ := p
      rw [hg, Option.bind_some] at hq
      have hr : r = ⟨r.fr, r.to_, 0, [], 2, 0, r.id, r.rate, 0, r.ps⟩ := by
        unfold grantQ at hg
        split at hg
        · cases hi : itG ((xs.drop 1).drop 5) (rd (xs.drop 1) 4).toNat with
          | none => rw [hi] at hg; cases hg
          | some q =>
            rw [hi, Option.bind_some] at hg
            injection hg with hg
            simp only [Prod.mk.injEq] at hg
            rw [← hg.1]
        · cases hg
      cases left with
      | nil => simp at hq
      | cons y ys =>
        rw [hr] at hg
        exact rt2_left k a0 w xs hl hb hpos k2 _ _ _ _ _ y ys hg
  rw [if_neg k2] at hq
  by_cases k3 : rd xs 0 = 3
  · rw [if_pos k3] at hq
    by_cases h : 3 ≤ xs.length
    · by_cases h2 : rd xs 2 = (xs.length : Int) - 3
      · rw [if_pos ⟨h, h2⟩] at hq; cases hq
      · exact rt3_no2 k a0 w xs hl hb hpos k3 h h2
    · exact rt3_no k a0 w xs hl hb hpos k3 h
  rw [if_neg k3] at hq
  by_cases k4 : rd xs 0 = 4
  · rw [if_pos k4] at hq
    by_cases h : (xs.length : Int) = 1
    · rw [if_pos h] at hq; cases hq
    · exact rt4_no k a0 w xs hl hb hpos k4 h
  rw [if_neg k4] at hq
  by_cases k5 : rd xs 0 = 5
  · rw [if_pos k5] at hq
    by_cases h : (xs.length : Int) = 2
    · rw [if_pos h] at hq; cases hq
    · exact rt5_no k a0 w xs hl hb hpos k5 h
  exact rt_none k a0 w xs hl hb hpos _ rfl (by simpa using k1) (by simpa using k2) (by simpa using k3) (by simpa using k4) (by simpa using k5)
theorem rt_yes (k : Nat) (a0 : ByteArray) (w : World) (xs : List Int) (hl : tollbarref1_List.f k a0 = some (xs, 0)) (hb : xs.length ≤ 1099511627776) (hpos : 0 < xs.length) (r : Rp) (hq : tellQ xs = some r) (b : Bool) (hm : tollbarref22_ReplyMay.f k r.fr r.to_ r.at_ r.vs r.kind r.code r.id r.rate r.value r.ps = some b) :
    Calls Try.prog 31 #[.string a0] w (ReadPost w (if b = true then (r, 0) else (nilRp, 2300))) := by
  unfold tellQ at hq
  by_cases k1 : rd xs 0 = 1
  · rw [if_pos k1] at hq
    by_cases h : (xs.length : Int) = 2
    · rw [if_pos h] at hq
      injection hq with hq
      subst hq
      cases b with
      | true => exact rt1_true k a0 w xs hl hb hpos k1 h hm
      | false => exact rt1_false k a0 w xs hl hb hpos k1 h hm
    · rw [if_neg h] at hq; cases hq
  rw [if_neg k1] at hq
  by_cases k2 : rd xs 0 = 2
  · rw [if_pos k2] at hq
    cases hg : grantQ (xs.drop 1) with
    | none => rw [hg] at hq; cases hq
    | some p =>
      obtain ⟨q, left⟩ := p
      rw [hg, Option.bind_some] at hq
      cases left with
      | cons y ys => simp at hq
      | nil =>
        simp only [if_true, Option.some.injEq] at hq
        subst hq
        have hr : q = ⟨q.fr, q.to_, 0, [], 2, 0, q.id, q.rate, 0, q.ps⟩ := by
          unfold grantQ at hg
          split at hg
          · cases hi : itG ((xs.drop 1).drop 5) (rd (xs.drop 1) 4).toNat with
            | none => rw [hi] at hg; cases hg
            | some s =>
              rw [hi, Option.bind_some] at hg
              injection hg with hg
              simp only [Prod.mk.injEq] at hg
              rw [← hg.1]
          · cases hg
        generalize q.fr = fr at hr
        generalize q.to_ = to_ at hr
        generalize q.id = id at hr
        generalize q.rate = rate at hr
        generalize q.ps = ps at hr
        subst hr
        cases b with
        | true => exact rt2_true k a0 w xs hl hb hpos k2 _ _ _ _ _ hg hm
        | false => exact rt2_false k a0 w xs hl hb hpos k2 _ _ _ _ _ hg hm
  rw [if_neg k2] at hq
  by_cases k3 : rd xs 0 = 3
  · rw [if_pos k3] at hq
    by_cases h : 3 ≤ xs.length ∧ rd xs 2 = (xs.length : Int) - 3
    · rw [if_pos h] at hq
      injection hq with hq
      subst hq
      cases b with
      | true => exact rt3_true k a0 w xs hl hb hpos k3 h.1 h.2 hm
      | false => exact rt3_false k a0 w xs hl hb hpos k3 h.1 h.2 hm
    · rw [if_neg h] at hq; cases hq
  rw [if_neg k3] at hq
  by_cases k4 : rd xs 0 = 4
  · rw [if_pos k4] at hq
    by_cases h : (xs.length : Int) = 1
    · rw [if_pos h] at hq
      injection hq with hq
      subst hq
      cases b with
      | true => exact rt4_true k a0 w xs hl hb hpos k4 h hm
      | false => exact rt4_false k a0 w xs hl hb hpos k4 h hm
    · rw [if_neg h] at hq; cases hq
  rw [if_neg k4] at hq
  by_cases k5 : rd xs 0 = 5
  · rw [if_pos k5] at hq
    by_cases h : (xs.length : Int) = 2
    · rw [if_pos h] at hq
      injection hq with hq
      subst hq
      cases b with
      | true => exact rt5_true k a0 w xs hl hb hpos k5 h hm
      | false => exact rt5_false k a0 w xs hl hb hpos k5 h hm
    · rw [if_neg h] at hq; cases hq
  rw [if_neg k5] at hq
  cases hq
def tollbarref22_ReadTell.f (k : Nat) (a0 : ByteArray) : Option (Int × Int × Int × List Int × Int × Int × Int × Int × Int × List S76 × Int) :=
  (tollbarref1_List.f k a0).bind fun p => if p.2 = 0 ∧ ¬ p.1.length = 0 then (if p.1.length ≤ 1099511627776 then (match tellQ p.1 with
    | none => some (tupR (nilRp, 2300))
    | some r => (tollbarref22_ReplyMay.f k r.fr r.to_ r.at_ r.vs r.kind r.code r.id r.rate r.value r.ps).bind fun b => some (tupR (if b = true then (r, 0) else (nilRp, 2300)))) else none) else some (tupR (nilRp, 2300))
theorem tollbarref22_ReadTell.calls (k : Nat) (a0 : ByteArray) (r1 : Int) (r2 : Int) (r3 : Int) (r4 : List Int) (r5 : Int) (r6 : Int) (r7 : Int) (r8 : Int) (r9 : Int) (r10 : List S76) (r11 : Int) (w : World) (h : tollbarref22_ReadTell.f k a0 = some (r1, r2, r3, r4, r5, r6, r7, r8, r9, r10, r11)) :
    Calls Try.prog 31 #[.string a0] w fun e w' => ∃ v3_ v9_ : Value, e = .returned (.tuple #[.agg #[.int .i64 r1, .int .i64 r2, .int .i64 r3, v3_, .int .i64 r5, .int .i64 r6, .int .i64 r7, .int .i64 r8, .int .i64 r9, v9_], .int .i64 r11]) ∧ Kd.R (Kd.int .i64) 3 w' w.heap.size (fun _ => True) v3_ r4 ∧ Kd.R k76 76 w' w.heap.size (fun k_ => some k_ ≠ (v3_ : Value).ownBlock) v9_ r10 ∧ Below w.heap.size w w' := by
  have fin : ∀ q : Rp × Int, some (tupR q) = some (r1, r2, r3, r4, r5, r6, r7, r8, r9, r10, r11) → Calls Try.prog 31 #[.string a0] w (ReadPost w q) → Calls Try.prog 31 #[.string a0] w fun e w' => ∃ v3_ v9_ : Value, e = .returned (.tuple #[.agg #[.int .i64 r1, .int .i64 r2, .int .i64 r3, v3_, .int .i64 r5, .int .i64 r6, .int .i64 r7, .int .i64 r8, .int .i64 r9, v9_], .int .i64 r11]) ∧ Kd.R (Kd.int .i64) 3 w' w.heap.size (fun _ => True) v3_ r4 ∧ Kd.R k76 76 w' w.heap.size (fun k_ => some k_ ≠ (v3_ : Value).ownBlock) v9_ r10 ∧ Below w.heap.size w w' := by
    intro q hq hc
    simp only [tupR, Option.some.injEq, Prod.mk.injEq] at hq
    obtain ⟨rfl, rfl, rfl, rfl, rfl, rfl, rfl, rfl, rfl, rfl, rfl⟩ := hq
    exact hc
  unfold tollbarref22_ReadTell.f at h
  cases hl : tollbarref1_List.f k a0 with
  | none => rw [hl] at h; cases h
  | some p =>
  obtain ⟨xs, e0⟩ := p
  rw [hl] at h
  dsimp only [Option.bind_some] at h
  by_cases he : e0 = 0
  case neg =>
    rw [if_neg (fun hh => he hh.1)] at h
    exact fin _ h (rt_bad k a0 w xs e0 hl he)
  subst he
  by_cases hz : xs.length = 0
  · rw [if_neg (fun hh => hh.2 hz)] at h
    exact fin _ h (rt_nil k a0 w xs hl hz)
  rw [if_pos ⟨rfl, hz⟩] at h
  by_cases hb : xs.length ≤ 1099511627776
  case neg => rw [if_neg hb] at h; cases h
  rw [if_pos hb] at h
  cases hq : tellQ xs with
  | none =>
    rw [hq] at h
    exact fin _ h (rt_no k a0 w xs hl hb (by omega) hq)
  | some r =>
    rw [hq] at h
    dsimp only at h
    cases hm : tollbarref22_ReplyMay.f k r.fr r.to_ r.at_ r.vs r.kind r.code r.id r.rate r.value r.ps with
    | none => rw [hm] at h; cases h
    | some b =>
      rw [hm, Option.bind_some] at h
      exact fin _ h (rt_yes k a0 w xs hl hb (by omega) r hq b hm)
end Go.Proofs.Yteikgpdjfhdneaa.Man
