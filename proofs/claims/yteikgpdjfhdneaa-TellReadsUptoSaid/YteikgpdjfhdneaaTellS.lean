/- tell.Read: what it answers, and that the call answers so (printed by gen_tellS.py). -/
import Derived.Test.YteikgpdjfhdneaaTellK2
import Derived.Test.YteikgpdjfhdneaaQLm
import Derived.Deep.Cut
set_option linter.unusedVariables false
set_option linter.unusedSimpArgs false
namespace Go.Proofs.Yteikgpdjfhdneaa.Man
open Go.RowKit Go.Proofs.Yteikgpdjfhdneaa.QT Go.Proofs.Yteikgpdjfhdneaa.QL Go.Proofs.YteikgpdjfhdneaaW.PrintWords Go.Proofs.YteikgpdjfhdneaaW.PrintLast Go.Proofs.YteikgpdjfhdneaaW.PrintMore
def nilRp : Rp := ⟨0, 0, 0, [], 0, 0, 0, 0, 0, []⟩
def okF (q : Rp × List Int × Bool) : Bool := !q.2.2 && (q.2.1.isEmpty && tellF q.1)
def readF (xs : List Int) : Rp × Int := if okF (replyR (xs, false)) = true then ((replyR (xs, false)).1, 0) else (nilRp, 2300)
def tupR (p : Rp × Int) : Int × Int × Int × List Int × Int × Int × Int × Int × Int × List S76 × Int := (p.1.fr, p.1.to_, p.1.at_, p.1.vs, p.1.kind, p.1.code, p.1.id, p.1.rate, p.1.value, p.1.ps, p.2)
def tell_Read.f (k : Nat) (a0 : ByteArray) : Option (Int × Int × Int × List Int × Int × Int × Int × Int × Int × List S76 × Int) :=
  (word_List.f k a0).bind fun p => if p.2 = 0 then (if p.1.length ≤ 1099511627776 then some (tupR (readF p.1)) else none) else some (tupR (nilRp, 2300))
theorem tell_Read.mono : ∀ a0 k, LeO (tell_Read.f k a0) (tell_Read.f (k + 1) a0) := by
  intro a0 k
  unfold tell_Read.f
  exact LeO.bind (word_List.mono _ _) (fun _ => LeO.refl _)
def ReadPost (w : World) (r : Rp × Int) (e : Ending) (w' : World) : Prop := ∃ v3_ v9_ : Value, e = .returned (.tuple #[.agg #[.int .i64 r.1.fr, .int .i64 r.1.to_, .int .i64 r.1.at_, v3_, .int .i64 r.1.kind, .int .i64 r.1.code, .int .i64 r.1.id, .int .i64 r.1.rate, .int .i64 r.1.value, v9_], .int .i64 r.2]) ∧ Kd.R (Kd.int .i64) 3 w' w.heap.size (fun _ => True) v3_ r.1.vs ∧ Kd.R k76 76 w' w.heap.size (fun k_ => some k_ ≠ (v3_ : Value).ownBlock) v9_ r.1.ps ∧ Below w.heap.size w w'
theorem vs_len (q : List Int × Bool) : (replyR q).1.vs.length ≤ q.1.length := by
  unfold replyR kindR
  split
  · simp
  · split
    · simp
    · split
      · simp [listF, nextR]
        omega
      · split <;> simp
theorem armL_ {w w1 : World} {v0 : Value} {xs : List Int} (HX : (Kd.int IntKind.i64).R 3 w1 (w.alloc (.cells #[.int .i64 0, .int .i64 0, .int .i64 0, .slice none 0 0, .int .i64 0, .int .i64 0, .int .i64 0, .int .i64 0, .int .i64 0, .slice none 0 0] 48 (0, 0))).heap.size (fun x => True) v0 xs)
    (HB : Below (w.alloc (.cells #[.int .i64 0, .int .i64 0, .int .i64 0, .slice none 0 0, .int .i64 0, .int .i64 0, .int .i64 0, .int .i64 0, .int .i64 0, .slice none 0 0] 48 (0, 0))).heap.size (w.alloc (.cells #[.int .i64 0, .int .i64 0, .int .i64 0, .slice none 0 0, .int .i64 0, .int .i64 0, .int .i64 0, .int .i64 0, .int .i64 0, .slice none 0 0] 48 (0, 0))) w1) :
      ∃ A c, v0 = .slice A xs.length c ∧ xs.length ≤ c ∧ (Kd.int .i64).C w1 A xs.length xs ∧ w1.heap[w.heap.size]? = some (.cells #[.int .i64 0, .int .i64 0, .int .i64 0, .slice none 0 0, .int .i64 0, .int .i64 0, .int .i64 0, .int .i64 0, .int .i64 0, .slice none 0 0] 48 (0, 0)) ∧ Below w.heap.size w w1 ∧ w.heap.size < w1.heap.size := by
  obtain ⟨A, c, he, hlc, hC⟩ := Kd.R_reads HX
  have hb : w1.heap[w.heap.size]? = some (.cells #[.int .i64 0, .int .i64 0, .int .i64 0, .slice none 0 0, .int .i64 0, .int .i64 0, .int .i64 0, .int .i64 0, .int .i64 0, .slice none 0 0] 48 (0, 0)) := blk_below (blk_new w _) HB
  exact ⟨A, c, he, hlc, hC, hb, ((Below.refl w.heap.size w).alloc (Nat.le_refl _) _).trans (HB.mono (by simp)), blk_lt hb⟩
theorem endR {w W W' : World} {r : Rp × Int} {v3 v9 : Value} (tmps : Array Value) (hp : tmps.getD 2 undef = .pointer (some ⟨w.heap.size, 0, none⟩)) (h3 : tmps.getD 3 undef = .int .i64 r.2)
    (hb : W.heap[w.heap.size]? = some (.cells #[.int .i64 0, .int .i64 0, .int .i64 0, .slice none 0 0, .int .i64 0, .int .i64 0, .int .i64 0, .int .i64 0, .int .i64 0, .slice none 0 0] 48 (0, 0))) (H3 : Kd.R (Kd.int .i64) 3 W w.heap.size (fun _ => True) v3 r.1.vs) (H9 : Kd.R k76 76 W w.heap.size (fun k => some k ≠ v3.ownBlock) v9 r.1.ps) (HB : Below w.heap.size w W)
    (hq : W'.heap[w.heap.size]? = some (.cells #[.int .i64 r.1.fr, .int .i64 r.1.to_, .int .i64 r.1.at_, v3, .int .i64 r.1.kind, .int .i64 r.1.code, .int .i64 r.1.id, .int .i64 r.1.rate, .int .i64 r.1.value, v9] 48 (0, 0)) ∧ W.grownBy W' (some w.heap.size)) :
    bodyPost Try.prog Try.f30 (ReadPost w r) .ret { tmps := tmps, defers := [] } W' := by
  refine bodyPost_ret (v := .tuple #[.agg #[.int .i64 r.1.fr, .int .i64 r.1.to_, .int .i64 r.1.at_, v3, .int .i64 r.1.kind, .int .i64 r.1.code, .int .i64 r.1.id, .int .i64 r.1.rate, .int .i64 r.1.value, v9], .int .i64 r.2]) ?_ rfl ⟨v3, v9, rfl, keepR H3 hb hq.2 (by decide), keepR H9 hb hq.2 (by decide), HB.grown hq.2 HB.size (fun k e => by injection e with e; omega)⟩
  have hh := results_ct (P := Try.prog) (fn := Try.f30) (p := 2) (u := 3) (ty := 48) rfl tmps W' w.heap.size 48 #[.int .i64 r.1.fr, .int .i64 r.1.to_, .int .i64 r.1.at_, v3, .int .i64 r.1.kind, .int .i64 r.1.code, .int .i64 r.1.id, .int .i64 r.1.rate, .int .i64 r.1.value, v9] (0, 0) _ hp hq.1 Try.underlying48 rfl (by kernel_rfl)
  rw [h3] at hh
  exact hh
set_option maxHeartbeats 4000000 in
set_option maxRecDepth 100000 in
theorem read_bad (k : Nat) (a0 : ByteArray) (w : World) (xs : List Int) (e0 : Int) (hl : word_List.f k a0 = some (xs, e0)) (he : ¬ e0 = 0) :
    Calls Try.prog 30 #[.string a0] w (ReadPost w (nilRp, 2300)) := by
  have HL := Lib.hid (word_List.calls k a0 xs e0 (w.alloc (.cells #[.int .i64 0, .int .i64 0, .int .i64 0, .slice none 0 0, .int .i64 0, .int .i64 0, .int .i64 0, .int .i64 0, .int .i64 0, .slice none 0 0] 48 (0, 0))) hl)
  clear hl
  go_enter Try.func30, Try.ntmps30
  go_wp2_with fail
  refine HL.out.mono ?_
  rintro e w1 ⟨v0, rfl, HX, HB⟩
  obtain ⟨A, c, rfl, hlc, hC, hb0, hB0, hlt0⟩ := armL_ HX HB
  have HB0 := Lib.hid hB0
  have HT1 := Lib.hid hb0
  have HC := Lib.hid hC
  clear HX HB hB0 hb0 hC
  have ht := HT1.out
  have t0 := blk_cell ht 0
  have f0 := blk_frozen ht 0
  simp at t0
  have t1 := blk_cell ht 1
  have f1 := blk_frozen ht 1
  simp at t1
  have t2 := blk_cell ht 2
  have f2 := blk_frozen ht 2
  simp at t2
  have t3 := blk_cell ht 3
  have f3 := blk_frozen ht 3
  simp at t3
  have t4 := blk_cell ht 4
  have f4 := blk_frozen ht 4
  simp at t4
  have t5 := blk_cell ht 5
  have f5 := blk_frozen ht 5
  simp at t5
  have t6 := blk_cell ht 6
  have f6 := blk_frozen ht 6
  simp at t6
  have t7 := blk_cell ht 7
  have f7 := blk_frozen ht 7
  simp at t7
  have t8 := blk_cell ht 8
  have f8 := blk_frozen ht 8
  simp at t8
  have t9 := blk_cell ht 9
  have f9 := blk_frozen ht 9
  simp at t9
  clear ht
  go_wp2
  exact endR (r := (nilRp, 2300)) (v3 := .slice none 0 0) (v9 := .slice none 0 0) _ rfl rfl HT1.out (Kd.R_nil _ _ _ _ _) nilR HB0.out (put10_blk w1 w.heap.size _ _ _ _ _ _ _ _ _ _ _ (.int .i64 0) (.int .i64 0) (.int .i64 0) (.slice none 0 0) (.int .i64 0) (.int .i64 0) (.int .i64 0) (.int .i64 0) (.int .i64 0) (.slice none 0 0) HT1.out)
set_option maxHeartbeats 4000000 in
set_option maxRecDepth 100000 in
theorem read_short (k : Nat) (a0 : ByteArray) (w : World) (xs : List Int) (hl : word_List.f k a0 = some (xs, 0)) (hb : xs.length ≤ 1099511627776) (sh : Bool) (lf : List Int) (r : Rp) (hrr : replyR (xs, false) = (r, lf, sh)) (hsh : sh = true) :
    Calls Try.prog 30 #[.string a0] w (ReadPost w (nilRp, 2300)) := by
  have hvs := vs_len (xs, false)
  have HR := Lib.hid (fun w0 W g (h : Ns w0 W g xs false) => reply_is w0 W g (xs, false) h)
  rw [hrr] at hvs HR
  simp only [] at hvs
  clear hrr
  have HL := Lib.hid (word_List.calls k a0 xs 0 (w.alloc (.cells #[.int .i64 0, .int .i64 0, .int .i64 0, .slice none 0 0, .int .i64 0, .int .i64 0, .int .i64 0, .int .i64 0, .int .i64 0, .slice none 0 0] 48 (0, 0))) hl)
  clear hl
  subst hsh
  go_enter Try.func30, Try.ntmps30
  go_wp2_with fail
  refine HL.out.mono ?_
  rintro e w1 ⟨v0, rfl, HX, HB⟩
  obtain ⟨A, c, rfl, hlc, hC, hb0, hB0, hlt0⟩ := armL_ HX HB
  have HB0 := Lib.hid hB0
  have HT1 := Lib.hid hb0
  have HC := Lib.hid hC
  clear HX HB hB0 hb0 hC
  have HN : Hid (Ns w1 (w1.alloc (.cells #[.slice A xs.length c, .bool false] 86 (0, 0))) w1.heap.size xs false) := Lib.hid ⟨(Below.refl _ _).alloc (Nat.le_refl _) _, Nat.le_refl _, hb, A, c, blk_new _ _, HC.out, hlc⟩
  go_wp2_with fail
  refine (HR.out _ _ _ HN.out).mono ?_
  rintro e w2 ⟨v3, v9, rfl, h3, h9, hn2, hg2⟩
  dsimp only at h3 h9 hn2 ⊢
  obtain ⟨A3, c3, rfl, hl3, hC3⟩ := Kd.R_reads h3
  obtain ⟨A9, c9, rfl, hl9, hC9⟩ := Kd.R_reads h9
  have HT2 := Lib.hid (blk_grown (blk_alloc HT1.out (.cells #[.slice A xs.length c, .bool false] 86 (0, 0))) hg2 (by simp; omega))
  have hs2 : w1.heap.size < w2.heap.size := by have := hg2.size; simp at this; omega
  have HB2 := Lib.hid ((HB0.out.alloc (by omega) (.cells #[.slice A xs.length c, .bool false] 86 (0, 0))).grown hg2 (by simp; omega) (fun k e => by injection e with e; omega))
  have H3 := Lib.hid (Kd.R_alloc (Kd.R_lower h3 (base' := w.heap.size) (by simp; omega)) (.cells #[.int .i64 r.fr, .int .i64 r.to_, .int .i64 r.at_, .slice A3 r.vs.length c3, .int .i64 r.kind, .int .i64 r.code, .int .i64 r.id, .int .i64 r.rate, .int .i64 r.value, .slice A9 r.ps.length c9] 48 (0, 0)))
  have H9 := Lib.hid (Kd.R_alloc (Kd.R_lower h9 (base' := w.heap.size) (by simp; omega)) (.cells #[.int .i64 r.fr, .int .i64 r.to_, .int .i64 r.at_, .slice A3 r.vs.length c3, .int .i64 r.kind, .int .i64 r.code, .int .i64 r.id, .int .i64 r.rate, .int .i64 r.value, .slice A9 r.ps.length c9] 48 (0, 0)))
  obtain ⟨_, _, _, A5, c5, hgb, _, _⟩ := hn2
  have g0 := blk_cell hgb 0
  have g1 := blk_cell hgb 1
  simp at g0 g1
  have HT3 := Lib.hid (blk_alloc HT2.out (.cells #[.int .i64 r.fr, .int .i64 r.to_, .int .i64 r.at_, .slice A3 r.vs.length c3, .int .i64 r.kind, .int .i64 r.code, .int .i64 r.id, .int .i64 r.rate, .int .i64 r.value, .slice A9 r.ps.length c9] 48 (0, 0)))
  have HB3 := Lib.hid (HB2.out.alloc (by omega) (.cells #[.int .i64 r.fr, .int .i64 r.to_, .int .i64 r.at_, .slice A3 r.vs.length c3, .int .i64 r.kind, .int .i64 r.code, .int .i64 r.id, .int .i64 r.rate, .int .i64 r.value, .slice A9 r.ps.length c9] 48 (0, 0)))
  clear h3 h9 hg2 hgb hC3 hC9 HN HR HL HC HT1 HB0 HT2 HB2
  go_upto_region 7 with fail
  generalize (w2.alloc (.cells #[.int .i64 r.fr, .int .i64 r.to_, .int .i64 r.at_, .slice A3 r.vs.length c3, .int .i64 r.kind, .int .i64 r.code, .int .i64 r.id, .int .i64 r.rate, .int .i64 r.value, .slice A9 r.ps.length c9] 48 (0, 0))) = W2 at HT3 HB3 ⊢
  have ht := HT3.out
  have t0 := blk_cell ht 0
  have f0 := blk_frozen ht 0
  simp at t0
  have t1 := blk_cell ht 1
  have f1 := blk_frozen ht 1
  simp at t1
  have t2 := blk_cell ht 2
  have f2 := blk_frozen ht 2
  simp at t2
  have t3 := blk_cell ht 3
  have f3 := blk_frozen ht 3
  simp at t3
  have t4 := blk_cell ht 4
  have f4 := blk_frozen ht 4
  simp at t4
  have t5 := blk_cell ht 5
  have f5 := blk_frozen ht 5
  simp at t5
  have t6 := blk_cell ht 6
  have f6 := blk_frozen ht 6
  simp at t6
  have t7 := blk_cell ht 7
  have f7 := blk_frozen ht 7
  simp at t7
  have t8 := blk_cell ht 8
  have f8 := blk_frozen ht 8
  simp at t8
  have t9 := blk_cell ht 9
  have f9 := blk_frozen ht 9
  simp at t9
  clear ht
  go_wp2
  exact endR (r := (nilRp, 2300)) (v3 := .slice none 0 0) (v9 := .slice none 0 0) _ rfl rfl HT3.out (Kd.R_nil _ _ _ _ _) nilR HB3.out (put10_blk W2 w.heap.size _ _ _ _ _ _ _ _ _ _ _ (.int .i64 0) (.int .i64 0) (.int .i64 0) (.slice none 0 0) (.int .i64 0) (.int .i64 0) (.int .i64 0) (.int .i64 0) (.int .i64 0) (.slice none 0 0) HT3.out)
set_option maxHeartbeats 4000000 in
set_option maxRecDepth 100000 in
theorem read_left (k : Nat) (a0 : ByteArray) (w : World) (xs : List Int) (hl : word_List.f k a0 = some (xs, 0)) (hb : xs.length ≤ 1099511627776) (lf : List Int) (r : Rp) (hrr : replyR (xs, false) = (r, lf, false)) (hlf : (0 : Int) < ((lf.length : Nat) : Int)) :
    Calls Try.prog 30 #[.string a0] w (ReadPost w (nilRp, 2300)) := by
  have hvs := vs_len (xs, false)
  have HR := Lib.hid (fun w0 W g (h : Ns w0 W g xs false) => reply_is w0 W g (xs, false) h)
  rw [hrr] at hvs HR
  simp only [] at hvs
  clear hrr
  have HL := Lib.hid (word_List.calls k a0 xs 0 (w.alloc (.cells #[.int .i64 0, .int .i64 0, .int .i64 0, .slice none 0 0, .int .i64 0, .int .i64 0, .int .i64 0, .int .i64 0, .int .i64 0, .slice none 0 0] 48 (0, 0))) hl)
  clear hl
  go_enter Try.func30, Try.ntmps30
  go_wp2_with fail
  refine HL.out.mono ?_
  rintro e w1 ⟨v0, rfl, HX, HB⟩
  obtain ⟨A, c, rfl, hlc, hC, hb0, hB0, hlt0⟩ := armL_ HX HB
  have HB0 := Lib.hid hB0
  have HT1 := Lib.hid hb0
  have HC := Lib.hid hC
  clear HX HB hB0 hb0 hC
  have HN : Hid (Ns w1 (w1.alloc (.cells #[.slice A xs.length c, .bool false] 86 (0, 0))) w1.heap.size xs false) := Lib.hid ⟨(Below.refl _ _).alloc (Nat.le_refl _) _, Nat.le_refl _, hb, A, c, blk_new _ _, HC.out, hlc⟩
  go_wp2_with fail
  refine (HR.out _ _ _ HN.out).mono ?_
  rintro e w2 ⟨v3, v9, rfl, h3, h9, hn2, hg2⟩
  dsimp only at h3 h9 hn2 ⊢
  obtain ⟨A3, c3, rfl, hl3, hC3⟩ := Kd.R_reads h3
  obtain ⟨A9, c9, rfl, hl9, hC9⟩ := Kd.R_reads h9
  have HT2 := Lib.hid (blk_grown (blk_alloc HT1.out (.cells #[.slice A xs.length c, .bool false] 86 (0, 0))) hg2 (by simp; omega))
  have hs2 : w1.heap.size < w2.heap.size := by have := hg2.size; simp at this; omega
  have HB2 := Lib.hid ((HB0.out.alloc (by omega) (.cells #[.slice A xs.length c, .bool false] 86 (0, 0))).grown hg2 (by simp; omega) (fun k e => by injection e with e; omega))
  have H3 := Lib.hid (Kd.R_alloc (Kd.R_lower h3 (base' := w.heap.size) (by simp; omega)) (.cells #[.int .i64 r.fr, .int .i64 r.to_, .int .i64 r.at_, .slice A3 r.vs.length c3, .int .i64 r.kind, .int .i64 r.code, .int .i64 r.id, .int .i64 r.rate, .int .i64 r.value, .slice A9 r.ps.length c9] 48 (0, 0)))
  have H9 := Lib.hid (Kd.R_alloc (Kd.R_lower h9 (base' := w.heap.size) (by simp; omega)) (.cells #[.int .i64 r.fr, .int .i64 r.to_, .int .i64 r.at_, .slice A3 r.vs.length c3, .int .i64 r.kind, .int .i64 r.code, .int .i64 r.id, .int .i64 r.rate, .int .i64 r.value, .slice A9 r.ps.length c9] 48 (0, 0)))
  obtain ⟨_, _, _, A5, c5, hgb, _, _⟩ := hn2
  have g0 := blk_cell hgb 0
  have g1 := blk_cell hgb 1
  simp at g0 g1
  generalize lf.length = nl at g0 hlf
  have hlf2 : 0 < nl := by omega
  have hlf3 : decide ((0 : Int) < (nl : Int)) = true := decide_eq_true hlf
  have hlf4 : decide (0 < nl) = true := decide_eq_true hlf2
  have HT3 := Lib.hid (blk_alloc HT2.out (.cells #[.int .i64 r.fr, .int .i64 r.to_, .int .i64 r.at_, .slice A3 r.vs.length c3, .int .i64 r.kind, .int .i64 r.code, .int .i64 r.id, .int .i64 r.rate, .int .i64 r.value, .slice A9 r.ps.length c9] 48 (0, 0)))
  have HB3 := Lib.hid (HB2.out.alloc (by omega) (.cells #[.int .i64 r.fr, .int .i64 r.to_, .int .i64 r.at_, .slice A3 r.vs.length c3, .int .i64 r.kind, .int .i64 r.code, .int .i64 r.id, .int .i64 r.rate, .int .i64 r.value, .slice A9 r.ps.length c9] 48 (0, 0)))
  clear h3 h9 hg2 hgb hC3 hC9 HN HR HL HC HT1 HB0 HT2 HB2
  go_upto_region 7 with fail
  generalize (w2.alloc (.cells #[.int .i64 r.fr, .int .i64 r.to_, .int .i64 r.at_, .slice A3 r.vs.length c3, .int .i64 r.kind, .int .i64 r.code, .int .i64 r.id, .int .i64 r.rate, .int .i64 r.value, .slice A9 r.ps.length c9] 48 (0, 0))) = W2 at HT3 HB3 ⊢
  have ht := HT3.out
  have t0 := blk_cell ht 0
  have f0 := blk_frozen ht 0
  simp at t0
  have t1 := blk_cell ht 1
  have f1 := blk_frozen ht 1
  simp at t1
  have t2 := blk_cell ht 2
  have f2 := blk_frozen ht 2
  simp at t2
  have t3 := blk_cell ht 3
  have f3 := blk_frozen ht 3
  simp at t3
  have t4 := blk_cell ht 4
  have f4 := blk_frozen ht 4
  simp at t4
  have t5 := blk_cell ht 5
  have f5 := blk_frozen ht 5
  simp at t5
  have t6 := blk_cell ht 6
  have f6 := blk_frozen ht 6
  simp at t6
  have t7 := blk_cell ht 7
  have f7 := blk_frozen ht 7
  simp at t7
  have t8 := blk_cell ht 8
  have f8 := blk_frozen ht 8
  simp at t8
  have t9 := blk_cell ht 9
  have f9 := blk_frozen ht 9
  simp at t9
  clear ht
  go_wp2
  exact endR (r := (nilRp, 2300)) (v3 := .slice none 0 0) (v9 := .slice none 0 0) _ rfl rfl HT3.out (Kd.R_nil _ _ _ _ _) nilR HB3.out (put10_blk W2 w.heap.size _ _ _ _ _ _ _ _ _ _ _ (.int .i64 0) (.int .i64 0) (.int .i64 0) (.slice none 0 0) (.int .i64 0) (.int .i64 0) (.int .i64 0) (.int .i64 0) (.int .i64 0) (.slice none 0 0) HT3.out)
set_option maxHeartbeats 4000000 in
set_option maxRecDepth 100000 in
theorem read_not (k : Nat) (a0 : ByteArray) (w : World) (xs : List Int) (hl : word_List.f k a0 = some (xs, 0)) (hb : xs.length ≤ 1099511627776) (r : Rp) (hrr : replyR (xs, false) = (r, [], false)) (hT : tellF r = false) :
    Calls Try.prog 30 #[.string a0] w (ReadPost w (nilRp, 2300)) := by
  have hvs := vs_len (xs, false)
  have HR := Lib.hid (fun w0 W g (h : Ns w0 W g xs false) => reply_is w0 W g (xs, false) h)
  rw [hrr] at hvs HR
  simp only [] at hvs
  clear hrr
  have HL := Lib.hid (word_List.calls k a0 xs 0 (w.alloc (.cells #[.int .i64 0, .int .i64 0, .int .i64 0, .slice none 0 0, .int .i64 0, .int .i64 0, .int .i64 0, .int .i64 0, .int .i64 0, .slice none 0 0] 48 (0, 0))) hl)
  clear hl
  go_enter Try.func30, Try.ntmps30
  go_wp2_with fail
  refine HL.out.mono ?_
  rintro e w1 ⟨v0, rfl, HX, HB⟩
  obtain ⟨A, c, rfl, hlc, hC, hb0, hB0, hlt0⟩ := armL_ HX HB
  have HB0 := Lib.hid hB0
  have HT1 := Lib.hid hb0
  have HC := Lib.hid hC
  clear HX HB hB0 hb0 hC
  have HN : Hid (Ns w1 (w1.alloc (.cells #[.slice A xs.length c, .bool false] 86 (0, 0))) w1.heap.size xs false) := Lib.hid ⟨(Below.refl _ _).alloc (Nat.le_refl _) _, Nat.le_refl _, hb, A, c, blk_new _ _, HC.out, hlc⟩
  go_wp2_with fail
  refine (HR.out _ _ _ HN.out).mono ?_
  rintro e w2 ⟨v3, v9, rfl, h3, h9, hn2, hg2⟩
  dsimp only at h3 h9 hn2 ⊢
  obtain ⟨A3, c3, rfl, hl3, hC3⟩ := Kd.R_reads h3
  obtain ⟨A9, c9, rfl, hl9, hC9⟩ := Kd.R_reads h9
  have HT2 := Lib.hid (blk_grown (blk_alloc HT1.out (.cells #[.slice A xs.length c, .bool false] 86 (0, 0))) hg2 (by simp; omega))
  have hs2 : w1.heap.size < w2.heap.size := by have := hg2.size; simp at this; omega
  have HB2 := Lib.hid ((HB0.out.alloc (by omega) (.cells #[.slice A xs.length c, .bool false] 86 (0, 0))).grown hg2 (by simp; omega) (fun k e => by injection e with e; omega))
  have H3 := Lib.hid (Kd.R_alloc (Kd.R_lower h3 (base' := w.heap.size) (by simp; omega)) (.cells #[.int .i64 r.fr, .int .i64 r.to_, .int .i64 r.at_, .slice A3 r.vs.length c3, .int .i64 r.kind, .int .i64 r.code, .int .i64 r.id, .int .i64 r.rate, .int .i64 r.value, .slice A9 r.ps.length c9] 48 (0, 0)))
  have H9 := Lib.hid (Kd.R_alloc (Kd.R_lower h9 (base' := w.heap.size) (by simp; omega)) (.cells #[.int .i64 r.fr, .int .i64 r.to_, .int .i64 r.at_, .slice A3 r.vs.length c3, .int .i64 r.kind, .int .i64 r.code, .int .i64 r.id, .int .i64 r.rate, .int .i64 r.value, .slice A9 r.ps.length c9] 48 (0, 0)))
  obtain ⟨_, _, _, A5, c5, hgb, _, _⟩ := hn2
  have g0 := blk_cell hgb 0
  have g1 := blk_cell hgb 1
  simp at g0 g1
  have HT3 := Lib.hid (blk_alloc HT2.out (.cells #[.int .i64 r.fr, .int .i64 r.to_, .int .i64 r.at_, .slice A3 r.vs.length c3, .int .i64 r.kind, .int .i64 r.code, .int .i64 r.id, .int .i64 r.rate, .int .i64 r.value, .slice A9 r.ps.length c9] 48 (0, 0)))
  have HB3 := Lib.hid (HB2.out.alloc (by omega) (.cells #[.int .i64 r.fr, .int .i64 r.to_, .int .i64 r.at_, .slice A3 r.vs.length c3, .int .i64 r.kind, .int .i64 r.code, .int .i64 r.id, .int .i64 r.rate, .int .i64 r.value, .slice A9 r.ps.length c9] 48 (0, 0)))
  have HM := Lib.hid (tellMay_is r A3 A9 c3 c9 (w2.alloc (.cells #[.int .i64 r.fr, .int .i64 r.to_, .int .i64 r.at_, .slice A3 r.vs.length c3, .int .i64 r.kind, .int .i64 r.code, .int .i64 r.id, .int .i64 r.rate, .int .i64 r.value, .slice A9 r.ps.length c9] 48 (0, 0))) (Kd.C_alloc hC3 _) hl3 (Kd.C_alloc hC9 _) hl9 (by omega))
  have HP := Lib.hid (blk_new w2 (.cells #[.int .i64 r.fr, .int .i64 r.to_, .int .i64 r.at_, .slice A3 r.vs.length c3, .int .i64 r.kind, .int .i64 r.code, .int .i64 r.id, .int .i64 r.rate, .int .i64 r.value, .slice A9 r.ps.length c9] 48 (0, 0)))
  rw [hT] at HM
  clear h3 h9 hg2 hgb hC3 hC9 HN HR HL HC HT1 HB0 HT2 HB2
  go_wp2_with fail
  refine HM.out.mono ?_
  rintro e w3 ⟨rfl, hb3⟩
  have HT4 := Lib.hid (blk_below HT3.out hb3)
  have HB4 := Lib.hid (HB3.out.trans (hb3.mono HB3.out.size))
  clear hb3 HM HP HT3 HB3 H3 H9
  have ht := HT4.out
  have t0 := blk_cell ht 0
  have f0 := blk_frozen ht 0
  simp at t0
  have t1 := blk_cell ht 1
  have f1 := blk_frozen ht 1
  simp at t1
  have t2 := blk_cell ht 2
  have f2 := blk_frozen ht 2
  simp at t2
  have t3 := blk_cell ht 3
  have f3 := blk_frozen ht 3
  simp at t3
  have t4 := blk_cell ht 4
  have f4 := blk_frozen ht 4
  simp at t4
  have t5 := blk_cell ht 5
  have f5 := blk_frozen ht 5
  simp at t5
  have t6 := blk_cell ht 6
  have f6 := blk_frozen ht 6
  simp at t6
  have t7 := blk_cell ht 7
  have f7 := blk_frozen ht 7
  simp at t7
  have t8 := blk_cell ht 8
  have f8 := blk_frozen ht 8
  simp at t8
  have t9 := blk_cell ht 9
  have f9 := blk_frozen ht 9
  simp at t9
  clear ht
  go_wp2
  exact endR (r := (nilRp, 2300)) (v3 := .slice none 0 0) (v9 := .slice none 0 0) _ rfl rfl HT4.out (Kd.R_nil _ _ _ _ _) nilR HB4.out (put10_blk w3 w.heap.size _ _ _ _ _ _ _ _ _ _ _ (.int .i64 0) (.int .i64 0) (.int .i64 0) (.slice none 0 0) (.int .i64 0) (.int .i64 0) (.int .i64 0) (.int .i64 0) (.int .i64 0) (.slice none 0 0) HT4.out)
set_option maxHeartbeats 4000000 in
set_option maxRecDepth 100000 in
theorem read_is (k : Nat) (a0 : ByteArray) (w : World) (xs : List Int) (hl : word_List.f k a0 = some (xs, 0)) (hb : xs.length ≤ 1099511627776) (r : Rp) (hrr : replyR (xs, false) = (r, [], false)) (hT : tellF r = true) :
    Calls Try.prog 30 #[.string a0] w (ReadPost w (r, 0)) := by
  have hvs := vs_len (xs, false)
  have HR := Lib.hid (fun w0 W g (h : Ns w0 W g xs false) => reply_is w0 W g (xs, false) h)
  rw [hrr] at hvs HR
  simp only [] at hvs
  clear hrr
  have HL := Lib.hid (word_List.calls k a0 xs 0 (w.alloc (.cells #[.int .i64 0, .int .i64 0, .int .i64 0, .slice none 0 0, .int .i64 0, .int .i64 0, .int .i64 0, .int .i64 0, .int .i64 0, .slice none 0 0] 48 (0, 0))) hl)
  clear hl
  go_enter Try.func30, Try.ntmps30
  go_wp2_with fail
  refine HL.out.mono ?_
  rintro e w1 ⟨v0, rfl, HX, HB⟩
  obtain ⟨A, c, rfl, hlc, hC, hb0, hB0, hlt0⟩ := armL_ HX HB
  have HB0 := Lib.hid hB0
  have HT1 := Lib.hid hb0
  have HC := Lib.hid hC
  clear HX HB hB0 hb0 hC
  have HN : Hid (Ns w1 (w1.alloc (.cells #[.slice A xs.length c, .bool false] 86 (0, 0))) w1.heap.size xs false) := Lib.hid ⟨(Below.refl _ _).alloc (Nat.le_refl _) _, Nat.le_refl _, hb, A, c, blk_new _ _, HC.out, hlc⟩
  go_wp2_with fail
  refine (HR.out _ _ _ HN.out).mono ?_
  rintro e w2 ⟨v3, v9, rfl, h3, h9, hn2, hg2⟩
  dsimp only at h3 h9 hn2 ⊢
  obtain ⟨A3, c3, rfl, hl3, hC3⟩ := Kd.R_reads h3
  obtain ⟨A9, c9, rfl, hl9, hC9⟩ := Kd.R_reads h9
  have HT2 := Lib.hid (blk_grown (blk_alloc HT1.out (.cells #[.slice A xs.length c, .bool false] 86 (0, 0))) hg2 (by simp; omega))
  have hs2 : w1.heap.size < w2.heap.size := by have := hg2.size; simp at this; omega
  have HB2 := Lib.hid ((HB0.out.alloc (by omega) (.cells #[.slice A xs.length c, .bool false] 86 (0, 0))).grown hg2 (by simp; omega) (fun k e => by injection e with e; omega))
  have H3 := Lib.hid (Kd.R_alloc (Kd.R_lower h3 (base' := w.heap.size) (by simp; omega)) (.cells #[.int .i64 r.fr, .int .i64 r.to_, .int .i64 r.at_, .slice A3 r.vs.length c3, .int .i64 r.kind, .int .i64 r.code, .int .i64 r.id, .int .i64 r.rate, .int .i64 r.value, .slice A9 r.ps.length c9] 48 (0, 0)))
  have H9 := Lib.hid (Kd.R_alloc (Kd.R_lower h9 (base' := w.heap.size) (by simp; omega)) (.cells #[.int .i64 r.fr, .int .i64 r.to_, .int .i64 r.at_, .slice A3 r.vs.length c3, .int .i64 r.kind, .int .i64 r.code, .int .i64 r.id, .int .i64 r.rate, .int .i64 r.value, .slice A9 r.ps.length c9] 48 (0, 0)))
  obtain ⟨_, _, _, A5, c5, hgb, _, _⟩ := hn2
  have g0 := blk_cell hgb 0
  have g1 := blk_cell hgb 1
  simp at g0 g1
  have HT3 := Lib.hid (blk_alloc HT2.out (.cells #[.int .i64 r.fr, .int .i64 r.to_, .int .i64 r.at_, .slice A3 r.vs.length c3, .int .i64 r.kind, .int .i64 r.code, .int .i64 r.id, .int .i64 r.rate, .int .i64 r.value, .slice A9 r.ps.length c9] 48 (0, 0)))
  have HB3 := Lib.hid (HB2.out.alloc (by omega) (.cells #[.int .i64 r.fr, .int .i64 r.to_, .int .i64 r.at_, .slice A3 r.vs.length c3, .int .i64 r.kind, .int .i64 r.code, .int .i64 r.id, .int .i64 r.rate, .int .i64 r.value, .slice A9 r.ps.length c9] 48 (0, 0)))
  have HM := Lib.hid (tellMay_is r A3 A9 c3 c9 (w2.alloc (.cells #[.int .i64 r.fr, .int .i64 r.to_, .int .i64 r.at_, .slice A3 r.vs.length c3, .int .i64 r.kind, .int .i64 r.code, .int .i64 r.id, .int .i64 r.rate, .int .i64 r.value, .slice A9 r.ps.length c9] 48 (0, 0))) (Kd.C_alloc hC3 _) hl3 (Kd.C_alloc hC9 _) hl9 (by omega))
  have HP := Lib.hid (blk_new w2 (.cells #[.int .i64 r.fr, .int .i64 r.to_, .int .i64 r.at_, .slice A3 r.vs.length c3, .int .i64 r.kind, .int .i64 r.code, .int .i64 r.id, .int .i64 r.rate, .int .i64 r.value, .slice A9 r.ps.length c9] 48 (0, 0)))
  rw [hT] at HM
  clear h3 h9 hg2 hgb hC3 hC9 HN HR HL HC HT1 HB0 HT2 HB2
  go_wp2_with fail
  refine HM.out.mono ?_
  rintro e w3 ⟨rfl, hb3⟩
  have HT4 := Lib.hid (blk_below HT3.out hb3)
  have HB4 := Lib.hid (HB3.out.trans (hb3.mono HB3.out.size))
  have hp := blk_below HP.out hb3
  have p0 := blk_cell hp 0
  simp at p0
  have p1 := blk_cell hp 1
  simp at p1
  have p2 := blk_cell hp 2
  simp at p2
  have p3 := blk_cell hp 3
  simp at p3
  have p4 := blk_cell hp 4
  simp at p4
  have p5 := blk_cell hp 5
  simp at p5
  have p6 := blk_cell hp 6
  simp at p6
  have p7 := blk_cell hp 7
  simp at p7
  have p8 := blk_cell hp 8
  simp at p8
  have p9 := blk_cell hp 9
  simp at p9
  have HA3 := Lib.hid (Kd.R_below H3.out hb3)
  have HA9 := Lib.hid (Kd.R_below H9.out hb3)
  clear hp
  clear hb3 HM HP HT3 HB3 H3 H9
  have ht := HT4.out
  have t0 := blk_cell ht 0
  have f0 := blk_frozen ht 0
  simp at t0
  have t1 := blk_cell ht 1
  have f1 := blk_frozen ht 1
  simp at t1
  have t2 := blk_cell ht 2
  have f2 := blk_frozen ht 2
  simp at t2
  have t3 := blk_cell ht 3
  have f3 := blk_frozen ht 3
  simp at t3
  have t4 := blk_cell ht 4
  have f4 := blk_frozen ht 4
  simp at t4
  have t5 := blk_cell ht 5
  have f5 := blk_frozen ht 5
  simp at t5
  have t6 := blk_cell ht 6
  have f6 := blk_frozen ht 6
  simp at t6
  have t7 := blk_cell ht 7
  have f7 := blk_frozen ht 7
  simp at t7
  have t8 := blk_cell ht 8
  have f8 := blk_frozen ht 8
  simp at t8
  have t9 := blk_cell ht 9
  have f9 := blk_frozen ht 9
  simp at t9
  clear ht
  go_wp2
  exact endR (r := (r, 0)) _ rfl rfl HT4.out HA3.out HA9.out HB4.out (put10_blk w3 w.heap.size _ _ _ _ _ _ _ _ _ _ _ (.int .i64 r.fr) (.int .i64 r.to_) (.int .i64 r.at_) (.slice A3 r.vs.length c3) (.int .i64 r.kind) (.int .i64 r.code) (.int .i64 r.id) (.int .i64 r.rate) (.int .i64 r.value) (.slice A9 r.ps.length c9) HT4.out)
theorem read_all (k : Nat) (a0 : ByteArray) (w : World) (xs : List Int) (hl : word_List.f k a0 = some (xs, 0)) (hb : xs.length ≤ 1099511627776) :
    Calls Try.prog 30 #[.string a0] w (ReadPost w (readF xs)) := by
  unfold readF
  rcases hrr : replyR (xs, false) with ⟨r, lf, sh⟩
  cases hsh : sh with
  | true =>
    have ho : okF (r, lf, true) = false := rfl
    rw [ho, if_neg (by simp)]
    exact read_short k a0 w xs hl hb sh lf r hrr hsh
  | false =>
    rw [hsh] at hrr
    cases lf with
    | cons y ys =>
      have ho : okF (r, y :: ys, false) = false := rfl
      rw [ho, if_neg (by simp)]
      exact read_left k a0 w xs hl hb _ r hrr (by simp only [List.length_cons]; omega)
    | nil =>
      cases hT : tellF r with
      | true =>
        have ho : okF (r, [], false) = true := hT
        rw [ho, if_pos rfl]
        exact read_is k a0 w xs hl hb r hrr hT
      | false =>
        have ho : okF (r, [], false) = false := hT
        rw [ho, if_neg (by simp)]
        exact read_not k a0 w xs hl hb r hrr hT
theorem tell_Read.calls (k : Nat) (a0 : ByteArray) (r1 : Int) (r2 : Int) (r3 : Int) (r4 : List Int) (r5 : Int) (r6 : Int) (r7 : Int) (r8 : Int) (r9 : Int) (r10 : List S76) (r11 : Int) (w : World) (h : tell_Read.f k a0 = some (r1, r2, r3, r4, r5, r6, r7, r8, r9, r10, r11)) :
    Calls Try.prog 30 #[.string a0] w fun e w' => ∃ v3_ v9_ : Value, e = .returned (.tuple #[.agg #[.int .i64 r1, .int .i64 r2, .int .i64 r3, v3_, .int .i64 r5, .int .i64 r6, .int .i64 r7, .int .i64 r8, .int .i64 r9, v9_], .int .i64 r11]) ∧ Kd.R (Kd.int .i64) 3 w' w.heap.size (fun _ => True) v3_ r4 ∧ Kd.R k76 76 w' w.heap.size (fun k_ => some k_ ≠ (v3_ : Value).ownBlock) v9_ r10 ∧ Below w.heap.size w w' := by
  unfold tell_Read.f at h
  cases hl : word_List.f k a0 with
  | none => rw [hl] at h; cases h
  | some p =>
  obtain ⟨xs, e0⟩ := p
  rw [hl] at h
  dsimp only [Option.bind_some] at h
  by_cases he : e0 = 0
  · subst he
    rw [if_pos rfl] at h
    split at h
    · have hr := read_all k a0 w xs hl (by assumption)
      generalize readF xs = q at h hr
      simp only [tupR, Option.some.injEq, Prod.mk.injEq] at h
      obtain ⟨rfl, rfl, rfl, rfl, rfl, rfl, rfl, rfl, rfl, rfl, rfl⟩ := h
      exact hr
    · cases h
  · rw [if_neg he] at h
    have hr := read_bad k a0 w xs e0 hl he
    simp only [tupR, nilRp, Option.some.injEq, Prod.mk.injEq] at h
    obtain ⟨rfl, rfl, rfl, rfl, rfl, rfl, rfl, rfl, rfl, rfl, rfl⟩ := h
    exact hr
end Go.Proofs.Yteikgpdjfhdneaa.Man
