/- TellK2: texts of this seat laid together by merge.py: TellN, TellO, TellP, TellQ, TellR. -/
import Derived.Test.YteikgpdjfhdneaaTellK1
import Derived.Lib.BufferOwn
import Derived.Lib.BufferWrite
import Derived.Lib.HexFns2
import Derived.Deep.RegionLaw
set_option linter.unusedVariables false
set_option linter.unusedSimpArgs false
namespace Go.Proofs.Yteikgpdjfhdneaa.Man
open Go.RowKit Go.Proofs.Yteikgpdjfhdneaa.QT Go.Proofs.YteikgpdjfhdneaaW.PrintWords Go.Proofs.YteikgpdjfhdneaaW.PrintLast Go.Proofs.YteikgpdjfhdneaaW.PrintMore
def Ns (w0 w : World) (g : Nat) (xs : List Int) (sh : Bool) : Prop := Below w0.heap.size w0 w ∧ w0.heap.size ≤ g ∧ xs.length ≤ 1099511627776 ∧ ∃ A c, w.heap[g]? = some (.cells #[.slice A xs.length c, .bool sh] 86 (0, 0)) ∧ Kd.C (Kd.int .i64) w0 A xs.length xs ∧ xs.length ≤ c
theorem Ns.grow {w0 w w1 : World} {g : Nat} {xs : List Int} {sh : Bool} (h : Ns w0 w g xs sh) (hb : Below w.heap.size w w1) : Ns w0 w1 g xs sh := by
  obtain ⟨hB, hg, hl, A, c, hk, hC, hc⟩ := h
  exact ⟨below_then hB hB.size hb, hg, hl, A, c, blk_below hk hb, hC, hc⟩
theorem Ns.far {w0 w w1 : World} {g : Nat} {xs : List Int} {sh : Bool} (h : Ns w0 w g xs sh) {row : Option Nat} (hg : w.grownBy w1 row) (hr : ∀ k, row = some k → w0.heap.size ≤ k) (hne : some g ≠ row) : Ns w0 w1 g xs sh := by
  obtain ⟨hB, hgg, hl, A, c, hk, hC, hc⟩ := h
  exact ⟨hB.grown hg hB.size hr, hgg, hl, A, c, blk_grown hk hg hne, hC, hc⟩
def nextF (xs : List Int) : Int := xs.headD 0
def nextS (xs : List Int) (sh : Bool) : Bool := sh || xs.isEmpty
set_option maxHeartbeats 8000000 in
set_option maxRecDepth 100000 in
theorem next_is (w0 w : World) (g : Nat) (xs : List Int) (sh : Bool) (h : Ns w0 w g xs sh) :
    Calls Try.prog 73 #[.pointer (some ⟨g, 0, none⟩)] w fun e w' => e = .returned (.int .i64 (nextF xs)) ∧ Ns w0 w' g xs.tail (nextS xs sh) ∧ w.grownBy w' (some g) := by
  obtain ⟨hB, hg, hl, A, c, hb, hC, hc⟩ := h
  have HB := Lib.hid hB
  have HK := Lib.hid hb
  have HC := Lib.hid hC
  have c0 := blk_cell hb 0
  have c1 := blk_cell hb 1
  have f0 := blk_frozen hb 0
  have f1 := blk_frozen hb 1
  simp at c0 c1
  clear hB hb
  cases xs with
  | nil =>
    clear hC
    go_enter Try.func73, Try.ntmps73
    go_wp2
    exact bodyPost_ret (v := .int .i64 0) (by simp [results, Try.results73, go_sem]) rfl ⟨rfl, ⟨HB.out.setCell hg _, hg, hl, A, c, by simpa [nextS] using blk_set HK.out 1 (.bool true), HC.out, hc⟩, Lib.grownBy_setCell w g 1 _⟩
  | cons x r =>
    obtain ⟨ad, rfl, x0⟩ := Kd.at_int (Kd.C_below HC.out HB.out) 0 (by omega) (by simp)
    have x0 : w.cell? ad = some (.int .i64 x) := by simpa [Addr.add, rd] using x0
    obtain ⟨i3, hi3, hz3⟩ := Option.map_eq_some_iff.1 info3
    have hs3 : i3.size = 1 := by simp only [Prod.mk.injEq] at hz3; exact hz3.2.1
    obtain ⟨A', hcut, hrd, hle⟩ := print_drop_of (P := Try.prog) (fun x : Int => Value.int .i64 x) 0 43 3 .i64 Try.underlying43 hi3 hs3 (some ad) c (x :: r) 1 (by omega) (by simp; omega) hc
    have hC' : Hid (Kd.C (Kd.int .i64) w0 A' r.length r) := Lib.hid (Kd.C_of_reads (hrd w0 (Kd.reads_of_C (d := (0 : Int)) HC.out)))
    have hL : (x :: r).length = r.length + 1 := rfl
    have hcut' : ∀ W : World, (Instr.slice 43 (.slice (some ad) (r.length + 1) c) (some (.int .i64 1)) none none).run Try.prog W = .ok (.slice A' r.length (c - 1)) W := by simpa using hcut
    have hd : ((r.length : Int) + 1 == 0) = false := by simp; omega
    have hp0 : (0 : Int) < (r.length : Int) + 1 := by omega
    clear hcut hrd hC
    simp only [List.length_cons] at c0 hle hc hl
    go_enter Try.func73, Try.ntmps73
    go_wp2
    refine bodyPost_ret (v := .int .i64 x) (by simp [results, Try.results73, go_sem]) rfl ⟨rfl, ⟨HB.out.setCell hg _, hg, by simp; omega, A', c - 1, by simpa [nextS] using blk_set HK.out 0 (.slice A' r.length (c - 1)), hC'.out, by simp; omega⟩, Lib.grownBy_setCell w g 0 _⟩
theorem grown_then {a w w' : World} {g : Nat} {row : Option Nat} (h : a.grownBy w (some g)) (hk : w.grownBy w' row) (hr : ∀ k, row = some k → a.heap.size ≤ k ∨ k = g) : a.grownBy w' (some g) :=
  ⟨hk.os.trans h.os, hk.tape.trans h.tape, hk.output.trans h.output, Nat.le_trans h.size hk.size, fun k hlt hne => (hk.block k (Nat.lt_of_lt_of_le hlt h.size) (fun e => by
    rcases hr k e.symm with h1 | h1
    · omega
    · exact hne (by rw [h1]))).trans (h.block k hlt hne)⟩
theorem grown_below {a w w' : World} {g : Nat} (h : a.grownBy w (some g)) (hb : Below w.heap.size w w') : a.grownBy w' (some g) := Lib.grownBy_below h hb
def cntF (xs : List Int) : Int := if ((xs.tail.length : Nat) : Int) < nextF xs then 0 else nextF xs
def cntS (xs : List Int) (sh : Bool) : Bool := nextS xs sh || decide (((xs.tail.length : Nat) : Int) < nextF xs)
set_option maxHeartbeats 8000000 in
set_option maxRecDepth 100000 in
theorem count_is (w0 w : World) (g : Nat) (xs : List Int) (sh : Bool) (h : Ns w0 w g xs sh) :
    Calls Try.prog 75 #[.pointer (some ⟨g, 0, none⟩)] w fun e w' => e = .returned (.int .i64 (cntF xs)) ∧ Ns w0 w' g xs.tail (cntS xs sh) ∧ w.grownBy w' (some g) := by
  have HN := Lib.hid (next_is w0 w g xs sh h)
  clear h
  unfold cntF cntS
  generalize nextF xs = x at HN ⊢
  generalize nextS xs sh = s at HN ⊢
  generalize xs.tail = ys at HN ⊢
  by_cases hx : ((ys.length : Nat) : Int) < x
  · rw [if_pos hx, decide_eq_true hx, Bool.or_true]
    have hd : decide (x > ((ys.length : Nat) : Int)) = true := decide_eq_true hx
    clear hx
    go_enter Try.func75, Try.ntmps75
    go_wp2_with fail
    refine HN.out.mono ?_
    rintro e w1 ⟨rfl, ⟨hB, hg, hl, A, c, hb, hC, hc⟩, hgr⟩
    have HB := Lib.hid hB
    have HK := Lib.hid hb
    have HC := Lib.hid hC
    have HG := Lib.hid hgr
    have c0 := blk_cell hb 0
    have c1 := blk_cell hb 1
    have f0 := blk_frozen hb 0
    have f1 := blk_frozen hb 1
    simp only [List.getElem?_toArray, List.getElem?_cons_zero, List.getElem?_cons_succ] at c0 c1
    clear hB hb hC hgr
    go_wp2
    exact bodyPost_ret (v := .int .i64 0) (by simp [results, Try.results75, go_sem]) rfl ⟨rfl, ⟨HB.out.setCell hg _, hg, hl, A, c, by simpa using blk_set HK.out 1 (.bool true), HC.out, hc⟩, grown_then HG.out (Lib.grownBy_setCell w1 g 1 _) (fun k e => .inr (by injection e with e; exact e.symm))⟩
  · rw [if_neg hx, decide_eq_false hx, Bool.or_false]
    have hd : decide (x > ((ys.length : Nat) : Int)) = false := decide_eq_false hx
    clear hx
    go_enter Try.func75, Try.ntmps75
    go_wp2_with fail
    refine HN.out.mono ?_
    rintro e w1 ⟨rfl, ⟨hB, hg, hl, A, c, hb, hC, hc⟩, hgr⟩
    have HB := Lib.hid hB
    have HK := Lib.hid hb
    have HC := Lib.hid hC
    have HG := Lib.hid hgr
    have c0 := blk_cell hb 0
    simp only [List.getElem?_toArray, List.getElem?_cons_zero, List.getElem?_cons_succ] at c0
    clear hB hb hC hgr
    go_wp2
    exact bodyPost_ret (v := .int .i64 x) (by simp [results, Try.results75, go_sem]) rfl ⟨rfl, ⟨HB.out, hg, hl, A, c, HK.out, HC.out, hc⟩, HG.out⟩
set_option maxHeartbeats 8000000 in
set_option maxRecDepth 100000 in
theorem span_is (w0 w : World) (g : Nat) (xs : List Int) (sh : Bool) (h : Ns w0 w g xs sh) :
    Calls Try.prog 74 #[.pointer (some ⟨g, 0, none⟩)] w fun e w' => e = .returned (.agg #[.int .i64 (nextF xs), .int .i64 (nextF xs.tail)]) ∧ Ns w0 w' g xs.tail.tail (nextS xs.tail (nextS xs sh)) ∧ w.grownBy w' (some g) := by
  have HN : Hid (Ns w0 (w.alloc (.cells #[.int .i64 0, .int .i64 0] 42)) g xs sh) := Lib.hid (h.grow ((Below.refl _ _).alloc (Nat.le_refl _) _))
  have hgl : g < w.heap.size := by
    obtain ⟨_, _, _, A, c, hb, _⟩ := h
    exact blk_lt hb
  have HN0 := Lib.hid (next_is w0 _ g xs sh HN.out)
  have HNX : Hid (∀ W, Ns w0 W g xs.tail (nextS xs sh) → Calls Try.prog 73 #[.pointer (some ⟨g, 0, none⟩)] W fun e w' => e = .returned (.int .i64 (nextF xs.tail)) ∧ Ns w0 w' g xs.tail.tail (nextS xs.tail (nextS xs sh)) ∧ W.grownBy w' (some g)) := Lib.hid (fun W => next_is w0 W g xs.tail _)
  clear h HN
  generalize nextF xs = x at HN0 ⊢
  generalize nextS xs sh = s at HN0 HNX ⊢
  generalize xs.tail = ys at HN0 HNX ⊢
  generalize nextF ys = y at HNX ⊢
  generalize nextS ys s = s2 at HNX ⊢
  generalize ys.tail = zs at HNX ⊢
  go_enter Try.func74, Try.ntmps74
  go_wp2_with fail
  refine HN0.out.mono ?_
  rintro e w1 ⟨rfl, hn1, hg1⟩
  have HN1 := Lib.hid hn1
  have HB1 := Lib.hid (blk_grown (blk_new w (.cells #[.int .i64 0, .int .i64 0] 42 (0, 0))) hg1 (by simp; omega))
  have HG1 := Lib.hid (Lib.grownBy_trans (World.grownBy_alloc w (.cells #[.int .i64 0, .int .i64 0] 42) (some g)) hg1)
  clear hn1 hg1
  go_wp2_with fail
  refine (HNX.out _ HN1.out).mono ?_
  rintro e w2 ⟨rfl, hn2, hg2⟩
  have HN2 := Lib.hid hn2
  have hk := blk_grown HB1.out hg2 (by simp; omega)
  have HB2 := Lib.hid hk
  have HG2 := Lib.hid (Lib.grownBy_trans HG1.out hg2)
  have f0 := blk_frozen hk 0
  have f1 := blk_frozen hk 1
  have c0 := blk_cell hk 0
  have c1 := blk_cell hk 1
  simp at c0 c1
  clear hn2 hg2 hk
  go_wp2
  have q := blk_set (blk_set HB2.out 0 (.int .i64 x)) 1 (.int .i64 y)
  have q0 := blk_cell q 0
  have q1 := blk_cell q 1
  simp at q0 q1
  have HS : Hid (w2.grownBy ((w2.setCell ⟨w.heap.size, 0, none⟩ (.int .i64 x)).setCell ⟨w.heap.size, 1, none⟩ (.int .i64 y)) (some w.heap.size)) := Lib.hid (Lib.grownBy_setB (Lib.grownBy_setCell w2 _ 0 _) 1 _)
  exact bodyPost_ret (v := .agg #[.int .i64 x, .int .i64 y]) (by simp [results, Try.results74, go_sem, q0, q1]) rfl ⟨rfl, HN2.out.far HS.out (fun k e => by injection e with e; have := HN2.out.2.1; omega) (by simp; omega), grown_then HG2.out HS.out (fun k e => .inl (by injection e with e; omega))⟩
end Go.Proofs.Yteikgpdjfhdneaa.Man
namespace Go.Proofs.Yteikgpdjfhdneaa.Man
open Go.RowKit Go.Proofs.Yteikgpdjfhdneaa.QT Go.Proofs.YteikgpdjfhdneaaW.PrintWords Go.Proofs.YteikgpdjfhdneaaW.PrintLast Go.Proofs.YteikgpdjfhdneaaW.PrintMore
def listF (xs : List Int) : List Int := xs.tail.take (cntF xs).toNat
def listR (xs : List Int) : List Int := xs.tail.drop (cntF xs).toNat
theorem cntF_le (xs : List Int) : (cntF xs).toNat ≤ xs.tail.length := by
  unfold cntF
  split <;> omega
theorem R_overG {α : Type} {d : Kd α} {e base : Nat} {ok : Nat → Prop} {w w1 : World} {v : Value} {xs : List α} {g : Nat} (h : d.R e w base ok v xs) (hg : w.grownBy w1 (some g)) (hgb : g < base) : d.R e w1 base ok v xs :=
  Kd.R_mono (Kd.R_grown (Kd.R_bound h) hg (fun k hk => by have := hk.2.1; simp; omega)) (fun _ hk => hk.1)
theorem own_ge {α : Type} {d : Kd α} {e base : Nat} {ok : Nat → Prop} {w : World} {v : Value} {xs : List α} (h : d.R e w base ok v xs) : ∀ k, v.ownBlock = some k → base ≤ k := fun k hk => ((Kd.R_bound h).1 k hk).2.1
def ListAt (w0 w : World) (g : Nat) (zs : List Int) (n : Nat) (s : Bool) (v i : Value) (w' : World) : Prop := ∃ k : Nat, i = .int .i64 (k : Int) ∧ k ≤ n ∧ Kd.R (Kd.int .i64) 3 w' w.heap.size (fun _ => True) v (zs.take k) ∧ Ns w0 w' g (zs.drop k) s ∧ w.grownBy w' (some g)
set_option maxHeartbeats 8000000 in
set_option maxRecDepth 100000 in
theorem list_is (w0 w : World) (g : Nat) (xs : List Int) (sh : Bool) (h : Ns w0 w g xs sh) :
    Calls Try.prog 77 #[.pointer (some ⟨g, 0, none⟩)] w fun e w' => ∃ v : Value, e = .returned v ∧ Kd.R (Kd.int .i64) 3 w' w.heap.size (fun _ => True) v (listF xs) ∧ Ns w0 w' g (listR xs) (cntS xs sh) ∧ w.grownBy w' (some g) := by
  have hgl : g < w.heap.size := by
    obtain ⟨_, _, _, A, c, hb, _⟩ := h
    exact blk_lt hb
  have hgw0 : w0.heap.size ≤ g := h.2.1
  have hzl : xs.tail.length ≤ 1099511627776 := by have := h.2.2.1; simp; omega
  have HC := Lib.hid (count_is w0 w g xs sh h)
  have hle := cntF_le xs
  unfold listF listR
  clear h
  generalize xs.tail = zs at HC hle hzl ⊢
  generalize cntF xs = n at HC hle ⊢
  generalize cntS xs sh = s at HC ⊢
  go_enter Try.func77, Try.ntmps77
  go_wp2_with fail
  refine HC.out.mono ?_
  rintro e w1 ⟨rfl, hn1, hg1⟩
  have HN1 := Lib.hid hn1
  have HG1 := Lib.hid hg1
  clear hn1 hg1
  go_wp2_with fail
  go_loopw [3, 6] (ListAt w0 w g zs n.toNat s) (fun _ i _ => n.toNat - (intOf i).toNat)
  case atStart => exact ⟨0, rfl, Nat.zero_le _, Kd.R_nil _ _ _ _ _, HN1.out, HG1.out⟩
  case round =>
    obtain ⟨k, rfl, hk, ho, hn, hgr⟩ := hrel
    obtain ⟨Av, cv, rfl⟩ := Kd.R_slice ho
    have HO := Lib.hid ho
    have HN := Lib.hid hn
    have HG := Lib.hid hgr
    clear ho hn hgr
    by_cases hlt : (k : Int) < n
    · have hkz : k < zs.length := by omega
      have HX := Lib.hid (next_is w0 wr g (zs.drop k) s HN.out)
      have HT : Hid (zs.take (k + 1) = zs.take k ++ [zs[k]]) := Lib.hid (List.take_succ_eq_append_getElem hkz)
      have HNF : nextF (zs.drop k) = zs[k] := by rw [List.drop_eq_getElem_cons hkz]; rfl
      have HNT : (zs.drop k).tail = zs.drop (k + 1) := by rw [List.drop_eq_getElem_cons hkz]; rfl
      have HNS : nextS (zs.drop k) s = s := by rw [List.drop_eq_getElem_cons hkz]; exact Bool.or_false s
      rw [HNF, HNT, HNS] at HX
      clear HNF HNT HNS
      generalize zs[k] = x at HX HT
      have HYL : Hid ((zs.take k).length = k) := Lib.hid (by rw [List.length_take]; omega)
      generalize zs.take k = ys at HO HT HYL ⊢
      have hd : decide ((k : Int) < n) = true := decide_eq_true hlt
      go_wp2_with fail
      refine HX.out.mono ?_
      rintro e w2 ⟨rfl, hn2, hg2⟩
      have HN2 := Lib.hid hn2
      have HG2 := Lib.hid (Lib.grownBy_trans HG.out hg2)
      have HO2 := Lib.hid (R_overG HO.out hg2 hgl)
      have HL2 : Hid ((ys.length + 1) * 8 ≤ 140737488355328) := Lib.hid (by rw [HYL.out]; omega)
      have HS2 : Hid (w.heap.size ≤ w2.heap.size) := Lib.hid (HG2.out.size)
      clear hn2 hg2
      go_wp2_with (first | ((with_reducible refine gate_builtin (b := .append) (xs := #[.tmp 8, .tmp 11]) rfl ?_); at_builtin; refine Kd.R_append (Kd.int .i64) (w0 := w2) w.heap.size rfl (.tmp 8) (.tmp 11) 43 3 (.int .i64 0) 8 rfl Try.underlying43 info3 rfl (by decide) (by omega) (.slice Av ys.length cv) ys x [.int .i64 x] (fun _ => True) (fun _ => False) rfl rfl ?aP (fun _ hk => hk.elim) ?aF ?aO ?aB ?aS ?aL ?_; (case aP => exact rfl); (case aF => exact (fun _ _ => trivial)); (case aO => exact HO2.out); (case aB => exact Below.refl _ _); (case aS => exact HS2.out); (case aL => exact HL2.out); intro v4 w4 ho4 hb4 hg4 _; have HO4 := Lib.hid ho4; have HG4 := Lib.hid hg4; clear ho4 hb4 hg4))
      go_roundw
      case rel => exact ⟨k + 1, by go_num, by omega, by rw [HT.out]; exact HO4.out, HN2.out.far HG4.out (fun k e => Nat.le_trans (Nat.le_trans hgw0 (Nat.le_of_lt hgl)) (own_ge HO2.out k e)) (fun e => by have := own_ge HO2.out g e.symm; omega), grown_then HG2.out HG4.out (fun k e => .inl (own_ge HO2.out k e))⟩
      case measure => simp [intOf]; omega
    · have hd : decide ((k : Int) < n) = false := decide_eq_false hlt
      have hkn : k = n.toNat := by omega
      subst hkn
      generalize (zs.take n.toNat).length = m at HO ⊢
      go_wp2
      exact bodyPost_ret (v := .slice Av m cv) (by simp [results, Try.results77, go_sem]) rfl ⟨_, rfl, HO.out, HN.out, HG.out⟩
end Go.Proofs.Yteikgpdjfhdneaa.Man
namespace Go.Proofs.Yteikgpdjfhdneaa.Man
open Go.RowKit Go.Proofs.Yteikgpdjfhdneaa.QT Go.Proofs.YteikgpdjfhdneaaW.PrintWords Go.Proofs.YteikgpdjfhdneaaW.PrintLast Go.Proofs.YteikgpdjfhdneaaW.PrintMore
def pathR (q : List Int × Bool) : Pth × List Int × Bool := (⟨nextF q.1, listF q.1.tail⟩, listR q.1.tail, cntS q.1.tail (nextS q.1 q.2))
def pathsR (q : List Int × Bool) : Nat → List Pth × List Int × Bool
  | 0 => ([], q)
  | k + 1 => ((pathsR q k).1 ++ [(pathR (pathsR q k).2).1], (pathR (pathsR q k).2).2)
theorem pathsR_len (q : List Int × Bool) : ∀ k, (pathsR q k).1.length = k
  | 0 => rfl
  | k + 1 => by simp [pathsR, pathsR_len q k]
def spanR (q : List Int × Bool) : List Int × Bool := (q.1.tail.tail, nextS q.1.tail (nextS q.1 q.2))
def cntR (q : List Int × Bool) : List Int × Bool := (q.1.tail, cntS q.1 q.2)
def pieceR (q : List Int × Bool) : Pce × List Int × Bool := (⟨⟨nextF q.1, nextF q.1.tail⟩, (pathsR (cntR (spanR q)) (cntF (spanR q).1).toNat).1⟩, (pathsR (cntR (spanR q)) (cntF (spanR q).1).toNat).2)
def PieceAt (w0 w : World) (g pb : Nat) (a b : Int) (q : List Int × Bool) (n : Nat) (i : Value) (w' : World) : Prop := ∃ (k : Nat) (Av : Option Addr) (cv : Nat), i = .int .i64 (k : Int) ∧ k ≤ n ∧ w'.heap[pb]? = some (.cells #[.int .i64 a, .int .i64 b, .slice Av (pathsR q k).1.length cv] 76 (0, 0)) ∧ w'.heap[w.heap.size]? = some (.cells #[.int .i64 0, .int .i64 0, .slice none 0 0] 76 (0, 0)) ∧ Kd.R k78 78 w' w.heap.size (fun _ => True) (.slice Av (pathsR q k).1.length cv) (pathsR q k).1 ∧ Ns w0 w' g (pathsR q k).2.1 (pathsR q k).2.2 ∧ w.grownBy w' (some g)
set_option maxHeartbeats 16000000 in
set_option maxRecDepth 100000 in
theorem piece_is (w0 w : World) (g : Nat) (q : List Int × Bool) (h : Ns w0 w g q.1 q.2) :
    Calls Try.prog 76 #[.pointer (some ⟨g, 0, none⟩)] w fun e w' => ∃ v : Value, e = .returned (.agg #[.int .i64 (pieceR q).1.f0.f0, .int .i64 (pieceR q).1.f0.f1, v]) ∧ Kd.R k78 78 w' w.heap.size (fun _ => True) v (pieceR q).1.f1 ∧ Ns w0 w' g (pieceR q).2.1 (pieceR q).2.2 ∧ w.grownBy w' (some g) := by
  have hgl : g < w.heap.size := by
    obtain ⟨_, _, _, A, c, hb, _⟩ := h
    exact blk_lt hb
  have hgw0 : w0.heap.size ≤ g := h.2.1
  have hzl : (spanR q).1.tail.length ≤ 1099511627776 := by have := h.2.2.1; simp [spanR]; omega
  have HSP := Lib.hid (span_is w0 _ g q.1 q.2 (h.grow ((Below.refl w.heap.size w).alloc (Nat.le_refl _) (.cells #[.int .i64 0, .int .i64 0, .slice none 0 0] 76))))
  have HCN : Hid (∀ W, Ns w0 W g (spanR q).1 (spanR q).2 → Calls Try.prog 75 #[.pointer (some ⟨g, 0, none⟩)] W fun e w' => e = .returned (.int .i64 (cntF (spanR q).1)) ∧ Ns w0 w' g (cntR (spanR q)).1 (cntR (spanR q)).2 ∧ W.grownBy w' (some g)) := Lib.hid (fun W hW => count_is w0 W g _ _ hW)
  have hle := cntF_le (spanR q).1
  unfold pieceR
  clear h
  rw [show q.1.tail.tail = (spanR q).1 from rfl, show nextS q.1.tail (nextS q.1 q.2) = (spanR q).2 from rfl] at HSP
  generalize spanR q = q1 at HSP HCN hle hzl ⊢
  generalize nextF q.1 = a at HSP ⊢
  generalize nextF q.1.tail = b at HSP ⊢
  generalize cntF q1.1 = n at HCN hle ⊢
  generalize cntR q1 = q2 at HCN ⊢
  have hnn : n.toNat ≤ 1099511627776 := by omega
  go_enter Try.func76, Try.ntmps76
  go_wp2_with fail
  refine HSP.out.mono ?_
  rintro e w1 ⟨rfl, hn1, hg1⟩
  have HN1 := Lib.hid (hn1.grow ((Below.refl w1.heap.size w1).alloc (Nat.le_refl _) (.cells #[.int .i64 a, .int .i64 b, .slice none 0 0] 76)))
  have HT1 := Lib.hid (blk_alloc (blk_grown (blk_new w (.cells #[.int .i64 0, .int .i64 0, .slice none 0 0] 76 (0, 0))) hg1 (by simp; omega)) (.cells #[.int .i64 a, .int .i64 b, .slice none 0 0] 76 (0, 0)))
  have HP1 := Lib.hid (blk_new w1 (.cells #[.int .i64 a, .int .i64 b, .slice none 0 0] 76 (0, 0)))
  have HG1 := Lib.hid (grown_below (Lib.grownBy_trans (World.grownBy_alloc w (.cells #[.int .i64 0, .int .i64 0, .slice none 0 0] 76) (some g)) hg1) ((Below.refl w1.heap.size w1).alloc (Nat.le_refl _) (.cells #[.int .i64 a, .int .i64 b, .slice none 0 0] 76)))
  have hwp : w.heap.size < w1.heap.size := by have := hg1.size; simp at this; omega
  clear hn1 hg1
  go_wp2_with fail
  refine (HCN.out _ HN1.out).mono ?_
  rintro e w2 ⟨rfl, hn2, hg2⟩
  have HN2 := Lib.hid hn2
  have HT2 := Lib.hid (blk_grown HT1.out hg2 (by simp; omega))
  have HP2 := Lib.hid (blk_grown HP1.out hg2 (by simp; omega))
  have HG2 := Lib.hid (Lib.grownBy_trans HG1.out hg2)
  obtain ⟨pb, hpb⟩ : ∃ pb, w1.heap.size = pb := ⟨_, rfl⟩
  rw [hpb] at HP2 hwp ⊢
  clear hn2 hg2 hpb HN1 HT1 HP1 HG1 HCN HSP
  go_wp2_with fail
  go_loopw [10] (PieceAt w0 w g pb a b q2 n.toNat) (fun i _ => n.toNat - (intOf i).toNat)
  case atStart => exact ⟨0, none, 0, rfl, Nat.zero_le _, HP2.out, HT2.out, Kd.R_nil _ _ _ _ _, HN2.out, HG2.out⟩
  case round =>
    obtain ⟨k, Av, cv, rfl, hk, hp, ht, ho, hn, hgr⟩ := hrel
    have HO := Lib.hid ho
    have HP := Lib.hid hp
    have HT := Lib.hid ht
    have HN := Lib.hid hn
    have HG := Lib.hid hgr
    clear ho hn hgr hp ht
    by_cases hlt : (k : Int) < n
    · have hd : decide ((k : Int) < n) = true := decide_eq_true hlt
      have HX := Lib.hid (next_is w0 wr g _ _ HN.out)
      have HYL : Hid ((pathsR q2 k).1.length = k) := Lib.hid (pathsR_len q2 k)
      have HSN1 : Hid ((pathsR q2 (k + 1)).1 = (pathsR q2 k).1 ++ [(⟨nextF (pathsR q2 k).2.1, listF (pathsR q2 k).2.1.tail⟩ : Pth)]) := Lib.hid rfl
      have HSN2 : Hid ((pathsR q2 (k + 1)).2.1 = listR (pathsR q2 k).2.1.tail) := Lib.hid rfl
      have HSN3 : Hid ((pathsR q2 (k + 1)).2.2 = cntS (pathsR q2 k).2.1.tail (nextS (pathsR q2 k).2.1 (pathsR q2 k).2.2)) := Lib.hid rfl
      generalize (pathsR q2 k).1 = ys at HO HP HYL HSN1 ⊢
      generalize nextF (pathsR q2 k).2.1 = x at HX HSN1
      generalize nextS (pathsR q2 k).2.1 (pathsR q2 k).2.2 = s3 at HX HSN3
      generalize (pathsR q2 k).2.1.tail = z3 at HX HSN1 HSN2 HSN3
      go_wp2_with fail
      refine HX.out.mono ?_
      rintro e w3 ⟨rfl, hn3, hg3⟩
      have HN3 := Lib.hid (hn3.grow ((Below.refl w3.heap.size w3).alloc (Nat.le_refl _) (.cells #[.int .i64 x, .slice none 0 0] 78)))
      have HG3 := Lib.hid (grown_below (Lib.grownBy_trans HG.out hg3) ((Below.refl w3.heap.size w3).alloc (Nat.le_refl _) (.cells #[.int .i64 x, .slice none 0 0] 78)))
      have HO3 : Hid (Kd.R k78 78 (w3.alloc (.cells #[.int .i64 x, .slice none 0 0] 78)) w.heap.size (fun k => k < w3.heap.size) (.slice Av ys.length cv) ys) := Lib.hid (Kd.R_below (R_overG (Kd.R_mono (Kd.R_bound HO.out) (fun k hk => Nat.lt_of_lt_of_le hk.2.2.1 hg3.size)) hg3 hgl) ((Below.refl w3.heap.size w3).alloc (Nat.le_refl _) _))
      have HP3 := Lib.hid (blk_alloc (blk_grown HP.out hg3 (by simp; omega)) (.cells #[.int .i64 x, .slice none 0 0] 78 (0, 0)))
      have HT3 := Lib.hid (blk_alloc (blk_grown HT.out hg3 (by simp; omega)) (.cells #[.int .i64 x, .slice none 0 0] 78 (0, 0)))
      have hpw3 : pb < w3.heap.size := Nat.lt_of_lt_of_le (blk_lt HP.out) hg3.size
      have hww3 : w.heap.size < w3.heap.size := by omega
      clear hn3 hg3
      go_wp2_with fail
      refine (list_is w0 _ g z3 s3 HN3.out).mono ?_
      rintro e w5 ⟨v5, rfl, hr5, hn5, hg5⟩
      obtain ⟨A5, c5, rfl⟩ := Kd.R_slice hr5
      have hs5 := hg5.size
      have hx5 := blk_grown (blk_new w3 (.cells #[.int .i64 x, .slice none 0 0] 78 (0, 0))) hg5 (by simp; omega)
      have hp5 := blk_grown HP3.out hg5 (by simp; omega)
      have f1 := blk_frozen hx5 1
      have e1 := blk_cell hx5 1
      have HGS : Hid (w5.grownBy (w5.setCell ⟨w3.heap.size, 1, none⟩ (.slice A5 (listF z3).length c5)) (some w3.heap.size)) := Lib.hid (Lib.grownBy_setCell w5 w3.heap.size 1 _)
      have HN5 := Lib.hid (hn5.far HGS.out (fun k e => by injection e with e; omega) (by simp; omega))
      have HG5 := Lib.hid (grown_then (Lib.grownBy_trans HG3.out hg5) HGS.out (fun k e => .inl (by injection e with e; omega)))
      have HO5 : Hid (Kd.R k78 78 (w5.setCell ⟨w3.heap.size, 1, none⟩ (.slice A5 (listF z3).length c5)) w.heap.size (fun k => k < w3.heap.size) (.slice Av ys.length cv) ys) := Lib.hid (Kd.R_far (R_overG HO3.out hg5 hgl) (fun k hk => by simp; omega) _)
      have hX5 := blk_set hx5 1 (.slice A5 (listF z3).length c5)
      have hP5 := blk_far hp5 (p := ⟨w3.heap.size, 1, none⟩) (by simp; omega) (.slice A5 (listF z3).length c5)
      have HP5 := Lib.hid hP5
      have HT5 := Lib.hid (blk_far (blk_grown HT3.out hg5 (by simp; omega)) (p := ⟨w3.heap.size, 1, none⟩) (by simp; omega) (.slice A5 (listF z3).length c5))
      have HM5 : Hid (Kd.M k78 (w5.setCell ⟨w3.heap.size, 1, none⟩ (.slice A5 (listF z3).length c5)) w.heap.size (fun k => w3.heap.size < k) ⟨x, listF z3⟩ [.int .i64 x, .slice A5 (listF z3).length c5]) := by
        refine Lib.hid (k78_mkM _ _ _ ⟨x, listF z3⟩ ?_)
        exact Kd.R_far (Kd.R_lower (Kd.R_mono (Kd.R_bound hr5) (fun k hk => by have := hk.2.1; simp at this; omega)) (by simp; omega)) (fun k hk => by simp; omega) _
      have x0 := blk_cell hX5 0
      have x1 := blk_cell hX5 1
      have p2 := blk_cell hP5 2
      simp at e1 x0 x1 p2
      have HLN : Hid ((ys.length + 1) * 32 ≤ 140737488355328) := Lib.hid (by rw [HYL.out]; omega)
      have HSZ : Hid (w.heap.size ≤ (w5.setCell ⟨w3.heap.size, 1, none⟩ (.slice A5 (listF z3).length c5)).heap.size) := Lib.hid HG5.out.size
      have HSE : Hid ((w5.setCell ⟨w3.heap.size, 1, none⟩ (.slice A5 (listF z3).length c5)).heap.size = w5.heap.size) := Lib.hid (by simp)
      have HOKP : Hid (∀ k, w3.heap.size < k → True ∧ some k ≠ (Value.slice Av ys.length cv).ownBlock) := Lib.hid (fun k hk => ⟨trivial, fun e => by have := HO5.out.1 k e.symm; omega⟩)
      have HO6 := Lib.hid (Kd.R_mono (ok' := fun _ => True) HO5.out (fun _ _ => trivial))
      have HNE := Lib.hid (Kd.R_ne HO6.out HP5.out (by decide))
      have HNT := Lib.hid (Kd.R_ne HO6.out HT5.out (by decide))
      clear hr5 hn5 hg5 hx5 hp5 hX5 hP5
      generalize listF z3 = ls at *
      go_wp2_with (first | ((with_reducible refine gate_builtin (b := .append) (xs := #[.tmp 19, .tmp 21]) rfl ?_); at_builtin; refine Kd.R_append k78 (w0 := w5.setCell ⟨w3.heap.size, 1, none⟩ (.slice A5 ls.length c5)) w.heap.size rfl (.tmp 19) (.tmp 21) 74 78 (.agg #[.int .i64 0, .slice none 0 0]) 32 rfl Try.underlying74 info78 rfl (by decide) (by omega) (.slice Av ys.length cv) ys ⟨x, ls⟩ [.int .i64 x, .slice A5 ls.length c5] (fun _ => True) (fun k => w3.heap.size < k) rfl (by rw [HSE.out]; rfl) ?aP ?aK ?aF ?aO ?aB ?aS ?aL ?_; (case aP => exact HM5.out); (case aK => exact HOKP.out); (case aF => exact (fun _ _ => trivial)); (case aO => exact HO6.out); (case aB => exact Below.refl _ _); (case aS => exact HSZ.out); (case aL => exact HLN.out); intro v7 w7 ho7 hb7 hg7 _; obtain ⟨A7, c7, rfl⟩ := Kd.R_slice ho7; generalize ys ++ [(⟨x, ls⟩ : Pth)] = ys7 at HSN1 ho7; have HO7 := Lib.hid ho7; have HG7 := Lib.hid hg7; have hp7 := blk_grown HP5.out hg7 HNE.out; have HP7 := Lib.hid hp7; have HT7 := Lib.hid (blk_grown HT5.out hg7 HNT.out); have f72 := blk_frozen hp7 2; have p72 := blk_cell hp7 2; simp at p72; clear ho7 hb7 hg7 hp7))
      have HS7 : Hid (w7.grownBy (w7.setCell ⟨pb, 2, none⟩ (.slice A7 ys7.length c7)) (some pb)) := Lib.hid (Lib.grownBy_setCell w7 pb 2 _)
      have HY7 : Hid (Kd.R k78 78 (w7.setCell ⟨pb, 2, none⟩ (.slice A7 ys7.length c7)) w.heap.size (fun _ => True) (.slice A7 ys7.length c7) ys7) := Lib.hid (Kd.R_mono (Kd.R_far (Kd.R_types HO7.out HP7.out (by decide)) (fun k hk => hk.2) _) (fun _ _ => trivial))
      go_roundw
      case rel =>
        refine ⟨k + 1, A7, c7, by go_num, by omega, ?_⟩
        rw [HSN1.out, HSN2.out, HSN3.out]
        exact ⟨by simpa using blk_set HP7.out 2 (.slice A7 ys7.length c7), blk_far HT7.out (by simp; omega) _, HY7.out, (HN5.out.far HG7.out (fun k e => Nat.le_trans (Nat.le_trans hgw0 (Nat.le_of_lt hgl)) (own_ge HO6.out k e)) (fun e => by have := own_ge HO6.out g e.symm; omega)).far HS7.out (fun k e => by injection e with e; omega) (by simp; omega), grown_then (grown_then HG5.out HG7.out (fun k e => .inl (own_ge HO6.out k e))) HS7.out (fun k e => .inl (by injection e with e; omega))⟩
      case measure => simp [intOf]; omega
    · have hd : decide ((k : Int) < n) = false := decide_eq_false hlt
      have hkn : k = n.toNat := by omega
      subst hkn
      have hp := HP.out
      have ht := HT.out
      generalize (pathsR q2 n.toNat).1.length = m at HO hp ⊢
      have p0 := blk_cell hp 0
      have p1 := blk_cell hp 1
      have p2 := blk_cell hp 2
      have t0 := blk_cell ht 0
      have t1 := blk_cell ht 1
      have t2 := blk_cell ht 2
      have f0 := blk_frozen ht 0
      have f1 := blk_frozen ht 1
      have f2 := blk_frozen ht 2
      simp at p0 p1 p2 t0 t1 t2
      have hq := blk_set (blk_set (blk_set ht 0 (.int .i64 a)) 1 (.int .i64 b)) 2 (.slice Av m cv)
      have r0 := blk_cell hq 0
      have r1 := blk_cell hq 1
      have r2 := blk_cell hq 2
      simp at r0 r1 r2
      have HS : Hid (wr.grownBy (((wr.setCell ⟨w.heap.size, 0, none⟩ (.int .i64 a)).setCell ⟨w.heap.size, 1, none⟩ (.int .i64 b)).setCell ⟨w.heap.size, 2, none⟩ (.slice Av m cv)) (some w.heap.size)) := Lib.hid (Lib.grownBy_setB (Lib.grownBy_setB (Lib.grownBy_setCell wr _ 0 _) 1 _) 2 _)
      have HR : Hid (Kd.R k78 78 (((wr.setCell ⟨w.heap.size, 0, none⟩ (.int .i64 a)).setCell ⟨w.heap.size, 1, none⟩ (.int .i64 b)).setCell ⟨w.heap.size, 2, none⟩ (.slice Av m cv)) w.heap.size (fun _ => True) (.slice Av m cv) (pathsR q2 n.toNat).1) := Lib.hid (Kd.R_mono (Kd.R_grown (Kd.R_types HO.out ht (by decide)) HS.out (fun k hk e => hk.2 (by injection e))) (fun _ _ => trivial))
      clear hp ht hq
      go_wp2
      exact bodyPost_ret (v := .agg #[.int .i64 a, .int .i64 b, .slice Av m cv]) (by simp [results, Try.results76, go_sem, r0, r1, r2]) rfl ⟨_, rfl, HR.out, HN.out.far HS.out (fun k e => by injection e with e; omega) (by simp; omega), grown_then HG.out HS.out (fun k e => .inl (by injection e with e; omega))⟩
end Go.Proofs.Yteikgpdjfhdneaa.Man
namespace Go.Proofs.Yteikgpdjfhdneaa.Man
open Go.RowKit Go.Proofs.Yteikgpdjfhdneaa.QT Go.Proofs.YteikgpdjfhdneaaW.PrintWords Go.Proofs.YteikgpdjfhdneaaW.PrintLast Go.Proofs.YteikgpdjfhdneaaW.PrintMore
def nextR (q : List Int × Bool) : List Int × Bool := (q.1.tail, nextS q.1 q.2)
def listQ (q : List Int × Bool) : List Int × Bool := (listR q.1, cntS q.1 q.2)
def piecesR (q : List Int × Bool) : Nat → List Pce × List Int × Bool
  | 0 => ([], q)
  | k + 1 => ((piecesR q k).1 ++ [(pieceR (piecesR q k).2).1], (pieceR (piecesR q k).2).2)
theorem piecesR_len (q : List Int × Bool) : ∀ k, (piecesR q k).1.length = k
  | 0 => rfl
  | k + 1 => by simp [piecesR, piecesR_len q k]
def kindR (k : Int) (q : List Int × Bool) : Rp × List Int × Bool :=
  if k = 1 then (⟨0, 0, 0, [], 1, nextF q.1, 0, 0, 0, []⟩, nextR q)
  else if k = 2 then (⟨nextF (nextR (nextR q)).1, nextF (nextR (nextR q)).1.tail, 0, [], 2, 0, nextF q.1, nextF (nextR q).1, 0, (piecesR (cntR (spanR (nextR (nextR q)))) (cntF (spanR (nextR (nextR q))).1).toNat).1⟩, (piecesR (cntR (spanR (nextR (nextR q)))) (cntF (spanR (nextR (nextR q))).1).toNat).2)
  else if k = 3 then (⟨0, 0, nextF q.1, listF (nextR q).1, 3, 0, 0, 0, 0, []⟩, listQ (nextR q))
  else if k = 5 then (⟨0, 0, 0, [], 5, 0, 0, 0, nextF q.1, []⟩, nextR q)
  else (⟨0, 0, 0, [], k, 0, 0, 0, 0, []⟩, q)
def replyR (q : List Int × Bool) : Rp × List Int × Bool := kindR (nextF q.1) (nextR q)
def ReplyPost (w0 w : World) (g : Nat) (r : Rp × List Int × Bool) (e : Ending) (w' : World) : Prop := ∃ v3 v9 : Value, e = .returned (.agg #[.int .i64 r.1.fr, .int .i64 r.1.to_, .int .i64 r.1.at_, v3, .int .i64 r.1.kind, .int .i64 r.1.code, .int .i64 r.1.id, .int .i64 r.1.rate, .int .i64 r.1.value, v9]) ∧ Kd.R (Kd.int .i64) 3 w' w.heap.size (fun _ => True) v3 r.1.vs ∧ Kd.R k76 76 w' w.heap.size (fun k => some k ≠ v3.ownBlock) v9 r.1.ps ∧ Ns w0 w' g r.2.1 r.2.2 ∧ w.grownBy w' (some g)
theorem next_q (w0 w : World) (g : Nat) (q : List Int × Bool) (h : Ns w0 w g q.1 q.2) : Calls Try.prog 73 #[.pointer (some ⟨g, 0, none⟩)] w fun e w' => e = .returned (.int .i64 (nextF q.1)) ∧ Ns w0 w' g (nextR q).1 (nextR q).2 ∧ w.grownBy w' (some g) := next_is w0 w g q.1 q.2 h
theorem span_q (w0 w : World) (g : Nat) (q : List Int × Bool) (h : Ns w0 w g q.1 q.2) : Calls Try.prog 74 #[.pointer (some ⟨g, 0, none⟩)] w fun e w' => e = .returned (.agg #[.int .i64 (nextF q.1), .int .i64 (nextF q.1.tail)]) ∧ Ns w0 w' g (spanR q).1 (spanR q).2 ∧ w.grownBy w' (some g) := span_is w0 w g q.1 q.2 h
theorem count_q (w0 w : World) (g : Nat) (q : List Int × Bool) (h : Ns w0 w g q.1 q.2) : Calls Try.prog 75 #[.pointer (some ⟨g, 0, none⟩)] w fun e w' => e = .returned (.int .i64 (cntF q.1)) ∧ Ns w0 w' g (cntR q).1 (cntR q).2 ∧ w.grownBy w' (some g) := count_is w0 w g q.1 q.2 h
theorem list_q (w0 w : World) (g : Nat) (q : List Int × Bool) (h : Ns w0 w g q.1 q.2) : Calls Try.prog 77 #[.pointer (some ⟨g, 0, none⟩)] w fun e w' => ∃ v : Value, e = .returned v ∧ Kd.R (Kd.int .i64) 3 w' w.heap.size (fun _ => True) v (listF q.1) ∧ Ns w0 w' g (listQ q).1 (listQ q).2 ∧ w.grownBy w' (some g) := list_is w0 w g q.1 q.2 h
theorem Ns.lt {w0 w : World} {g : Nat} {xs : List Int} {sh : Bool} (h : Ns w0 w g xs sh) : g < w.heap.size := by
  obtain ⟨_, _, _, A, c, hb, _⟩ := h
  exact blk_lt hb
theorem nilR {w : World} {base : Nat} {v : Value} : Kd.R k76 76 w base (fun k => some k ≠ v.ownBlock) (.slice none 0 0) [] := Kd.R_nil _ _ _ _ _
theorem keepR {α : Type} {d : Kd α} {e base b : Nat} {ok : Nat → Prop} {w w1 : World} {v : Value} {xs : List α} {cs : Array Value} (h : d.R e w base ok v xs) (hb : w.heap[b]? = some (.cells cs 48 (0, 0))) (hg : w.grownBy w1 (some b)) (ht : ∀ q, q ∈ e :: d.E → q ≠ 48) : d.R e w1 base ok v xs :=
  Kd.R_mono (Kd.R_grown (Kd.R_types h hb ht) hg (fun k hk e => hk.2 (by injection e))) (fun _ hk => hk.1)
theorem put10_blk (W : World) (b t : Nat) (z0 z1 z2 z3 z4 z5 z6 z7 z8 z9 v0 v1 v2 v3 v4 v5 v6 v7 v8 v9 : Value) (h : W.heap[b]? = some (.cells #[z0, z1, z2, z3, z4, z5, z6, z7, z8, z9] t (0, 0))) : ((((((((((W.setCell ⟨b, 0, none⟩ v0).setCell ⟨b, 1, none⟩ v1).setCell ⟨b, 2, none⟩ v2).setCell ⟨b, 3, none⟩ v3).setCell ⟨b, 4, none⟩ v4).setCell ⟨b, 5, none⟩ v5).setCell ⟨b, 6, none⟩ v6).setCell ⟨b, 7, none⟩ v7).setCell ⟨b, 8, none⟩ v8).setCell ⟨b, 9, none⟩ v9).heap[b]? = some (.cells #[v0, v1, v2, v3, v4, v5, v6, v7, v8, v9] t (0, 0)) ∧ W.grownBy ((((((((((W.setCell ⟨b, 0, none⟩ v0).setCell ⟨b, 1, none⟩ v1).setCell ⟨b, 2, none⟩ v2).setCell ⟨b, 3, none⟩ v3).setCell ⟨b, 4, none⟩ v4).setCell ⟨b, 5, none⟩ v5).setCell ⟨b, 6, none⟩ v6).setCell ⟨b, 7, none⟩ v7).setCell ⟨b, 8, none⟩ v8).setCell ⟨b, 9, none⟩ v9) (some b) := by
  exact ⟨by simpa using blk_set (blk_set (blk_set (blk_set (blk_set (blk_set (blk_set (blk_set (blk_set (blk_set (h) 0 v0) 1 v1) 2 v2) 3 v3) 4 v4) 5 v5) 6 v6) 7 v7) 8 v8) 9 v9, Lib.grownBy_setB (Lib.grownBy_setB (Lib.grownBy_setB (Lib.grownBy_setB (Lib.grownBy_setB (Lib.grownBy_setB (Lib.grownBy_setB (Lib.grownBy_setB (Lib.grownBy_setB (Lib.grownBy_setCell W b 0 _) 1 _) 2 _) 3 _) 4 _) 5 _) 6 _) 7 _) 8 _) 9 _⟩
set_option maxHeartbeats 4000000 in
set_option maxRecDepth 100000 in
theorem reply_1 (w0 w : World) (g : Nat) (q : List Int × Bool) (h : Ns w0 w g q.1 q.2) (hk : nextF q.1 = 1) :
    Calls Try.prog 53 #[.pointer (some ⟨g, 0, none⟩)] w fun e w' => ReplyPost w0 w g (kindR 1 (nextR q)) e w' := by
  have hgl := h.lt
  have hgw0 : w0.heap.size ≤ g := h.2.1
  have HX := Lib.hid (next_q w0 _ g q (h.grow ((Below.refl w.heap.size w).alloc (Nat.le_refl _) (.cells #[.int .i64 0, .int .i64 0, .int .i64 0, .slice none 0 0, .int .i64 0, .int .i64 0, .int .i64 0, .int .i64 0, .int .i64 0, .slice none 0 0] 48))))
  rw [hk] at HX
  clear h hk
  have hzl : (nextR q).1.length ≤ 1099511627776 → True := fun _ => trivial
  generalize nextR q = q1 at HX hzl ⊢
  clear hzl
  unfold kindR
  simp only [Int.reduceEq, if_true, if_false]
  have HC := Lib.hid (fun W => next_q w0 W g q1)
  generalize nextF q1.1 = x at HC ⊢
  go_enter Try.func53, Try.ntmps53
  go_wp2_with fail
  refine HX.out.mono ?_
  rintro e w1 ⟨rfl, hn1, hg1⟩
  have hr1 := blk_new w1 (.cells #[.int .i64 0, .int .i64 0, .int .i64 0, .slice none 0 0, .int .i64 1, .int .i64 0, .int .i64 0, .int .i64 0, .int .i64 0, .slice none 0 0] 48 (0, 0))
  have ht1 := blk_alloc (blk_grown (blk_new w (.cells #[.int .i64 0, .int .i64 0, .int .i64 0, .slice none 0 0, .int .i64 0, .int .i64 0, .int .i64 0, .int .i64 0, .int .i64 0, .slice none 0 0] 48 (0, 0))) hg1 (by simp; omega)) (.cells #[.int .i64 0, .int .i64 0, .int .i64 0, .slice none 0 0, .int .i64 1, .int .i64 0, .int .i64 0, .int .i64 0, .int .i64 0, .slice none 0 0] 48 (0, 0))
  have HN1 := Lib.hid (hn1.grow ((Below.refl w1.heap.size w1).alloc (Nat.le_refl _) (.cells #[.int .i64 0, .int .i64 0, .int .i64 0, .slice none 0 0, .int .i64 1, .int .i64 0, .int .i64 0, .int .i64 0, .int .i64 0, .slice none 0 0] 48 (0, 0))))
  have HG1 := Lib.hid (grown_below (Lib.grownBy_trans (World.grownBy_alloc w (.cells #[.int .i64 0, .int .i64 0, .int .i64 0, .slice none 0 0, .int .i64 0, .int .i64 0, .int .i64 0, .int .i64 0, .int .i64 0, .slice none 0 0] 48) (some g)) hg1) ((Below.refl w1.heap.size w1).alloc (Nat.le_refl _) (.cells #[.int .i64 0, .int .i64 0, .int .i64 0, .slice none 0 0, .int .i64 1, .int .i64 0, .int .i64 0, .int .i64 0, .int .i64 0, .slice none 0 0] 48 (0, 0))))
  have hwr : w.heap.size < w1.heap.size := by have := hg1.size; simp at this; omega
  have HR1 := Lib.hid hr1
  have HT1 := Lib.hid ht1
  clear hn1 hg1 hr1 ht1
  go_wp2_with fail
  refine (HC.out _ HN1.out).mono ?_
  rintro e w2 ⟨rfl, hn2, hg2⟩
  have hr2 := blk_grown HR1.out hg2 (by simp; omega)
  have ht2 := blk_grown HT1.out hg2 (by simp; omega)
  have f2_5 := blk_frozen hr2 5
  have e2_5 := blk_cell hr2 5
  simp at e2_5
  have HS2 : Hid (w2.grownBy (w2.setCell ⟨w1.heap.size, 5, none⟩ (.int .i64 x)) (some w1.heap.size)) := Lib.hid (Lib.grownBy_setCell w2 w1.heap.size 5 (.int .i64 x))
  have HR2 : Hid ((w2.setCell ⟨w1.heap.size, 5, none⟩ (.int .i64 x)).heap[w1.heap.size]? = some (.cells #[.int .i64 0, .int .i64 0, .int .i64 0, .slice none 0 0, .int .i64 1, .int .i64 x, .int .i64 0, .int .i64 0, .int .i64 0, .slice none 0 0] 48 (0, 0))) := Lib.hid (by simpa using blk_set (hr2) 5 (.int .i64 x))
  have HT2 : Hid ((w2.setCell ⟨w1.heap.size, 5, none⟩ (.int .i64 x)).heap[w.heap.size]? = some (.cells #[.int .i64 0, .int .i64 0, .int .i64 0, .slice none 0 0, .int .i64 0, .int .i64 0, .int .i64 0, .int .i64 0, .int .i64 0, .slice none 0 0] 48 (0, 0))) := Lib.hid (blk_grown ht2 HS2.out (by simp; omega))
  have HN2 := Lib.hid (hn2.far HS2.out (fun k e => by injection e with e; omega) (by simp; omega))
  have HG2 := Lib.hid (grown_then (Lib.grownBy_trans HG1.out hg2) HS2.out (fun k e => .inl (by injection e with e; omega)))
  have hp := HR2.out
  have ht := HT2.out
  have hq := put10_blk (w2.setCell ⟨w1.heap.size, 5, none⟩ (.int .i64 x)) w.heap.size _ _ _ _ _ _ _ _ _ _ _ (.int .i64 0) (.int .i64 0) (.int .i64 0) (.slice none 0 0) (.int .i64 1) (.int .i64 x) (.int .i64 0) (.int .i64 0) (.int .i64 0) (.slice none 0 0) ht
  have p0 := blk_cell hp 0
  have p1 := blk_cell hp 1
  have p2 := blk_cell hp 2
  have p3 := blk_cell hp 3
  have p4 := blk_cell hp 4
  have p5 := blk_cell hp 5
  have p6 := blk_cell hp 6
  have p7 := blk_cell hp 7
  have p8 := blk_cell hp 8
  have p9 := blk_cell hp 9
  have t0 := blk_cell ht 0
  have f0 := blk_frozen ht 0
  have t1 := blk_cell ht 1
  have f1 := blk_frozen ht 1
  have t2 := blk_cell ht 2
  have f2 := blk_frozen ht 2
  have t3 := blk_cell ht 3
  have f3 := blk_frozen ht 3
  have t4 := blk_cell ht 4
  have f4 := blk_frozen ht 4
  have t5 := blk_cell ht 5
  have f5 := blk_frozen ht 5
  have t6 := blk_cell ht 6
  have f6 := blk_frozen ht 6
  have t7 := blk_cell ht 7
  have f7 := blk_frozen ht 7
  have t8 := blk_cell ht 8
  have f8 := blk_frozen ht 8
  have t9 := blk_cell ht 9
  have f9 := blk_frozen ht 9
  have r0 := blk_cell hq.1 0
  have r1 := blk_cell hq.1 1
  have r2 := blk_cell hq.1 2
  have r3 := blk_cell hq.1 3
  have r4 := blk_cell hq.1 4
  have r5 := blk_cell hq.1 5
  have r6 := blk_cell hq.1 6
  have r7 := blk_cell hq.1 7
  have r8 := blk_cell hq.1 8
  have r9 := blk_cell hq.1 9
  simp at p0 t0 r0
  simp at p1 t1 r1
  simp at p2 t2 r2
  simp at p3 t3 r3
  simp at p4 t4 r4
  simp at p5 t5 r5
  simp at p6 t6 r6
  simp at p7 t7 r7
  simp at p8 t8 r8
  simp at p9 t9 r9
  have HQ := Lib.hid hq.2
  have HTT := Lib.hid ht
  clear hp ht hq
  go_wp2
  exact bodyPost_ret (v := .agg #[.int .i64 0, .int .i64 0, .int .i64 0, .slice none 0 0, .int .i64 1, .int .i64 x, .int .i64 0, .int .i64 0, .int .i64 0, .slice none 0 0]) (by simp [results, Try.results53, go_sem, r0, r1, r2, r3, r4, r5, r6, r7, r8, r9]) rfl ⟨_, _, rfl, keepR (Kd.R_nil _ _ _ _ _) HTT.out HQ.out (by decide), keepR (nilR) HTT.out HQ.out (by decide), HN2.out.far HQ.out (fun k e => by injection e with e; omega) (by simp; omega), grown_then HG2.out HQ.out (fun k e => .inl (by injection e with e; omega))⟩
set_option maxHeartbeats 4000000 in
set_option maxRecDepth 100000 in
theorem reply_5 (w0 w : World) (g : Nat) (q : List Int × Bool) (h : Ns w0 w g q.1 q.2) (hk : nextF q.1 = 5) :
    Calls Try.prog 53 #[.pointer (some ⟨g, 0, none⟩)] w fun e w' => ReplyPost w0 w g (kindR 5 (nextR q)) e w' := by
  have hgl := h.lt
  have hgw0 : w0.heap.size ≤ g := h.2.1
  have HX := Lib.hid (next_q w0 _ g q (h.grow ((Below.refl w.heap.size w).alloc (Nat.le_refl _) (.cells #[.int .i64 0, .int .i64 0, .int .i64 0, .slice none 0 0, .int .i64 0, .int .i64 0, .int .i64 0, .int .i64 0, .int .i64 0, .slice none 0 0] 48))))
  rw [hk] at HX
  clear h hk
  have hzl : (nextR q).1.length ≤ 1099511627776 → True := fun _ => trivial
  generalize nextR q = q1 at HX hzl ⊢
  clear hzl
  unfold kindR
  simp only [Int.reduceEq, if_true, if_false]
  have HC := Lib.hid (fun W => next_q w0 W g q1)
  generalize nextF q1.1 = x at HC ⊢
  go_enter Try.func53, Try.ntmps53
  go_wp2_with fail
  refine HX.out.mono ?_
  rintro e w1 ⟨rfl, hn1, hg1⟩
  have hr1 := blk_new w1 (.cells #[.int .i64 0, .int .i64 0, .int .i64 0, .slice none 0 0, .int .i64 5, .int .i64 0, .int .i64 0, .int .i64 0, .int .i64 0, .slice none 0 0] 48 (0, 0))
  have ht1 := blk_alloc (blk_grown (blk_new w (.cells #[.int .i64 0, .int .i64 0, .int .i64 0, .slice none 0 0, .int .i64 0, .int .i64 0, .int .i64 0, .int .i64 0, .int .i64 0, .slice none 0 0] 48 (0, 0))) hg1 (by simp; omega)) (.cells #[.int .i64 0, .int .i64 0, .int .i64 0, .slice none 0 0, .int .i64 5, .int .i64 0, .int .i64 0, .int .i64 0, .int .i64 0, .slice none 0 0] 48 (0, 0))
  have HN1 := Lib.hid (hn1.grow ((Below.refl w1.heap.size w1).alloc (Nat.le_refl _) (.cells #[.int .i64 0, .int .i64 0, .int .i64 0, .slice none 0 0, .int .i64 5, .int .i64 0, .int .i64 0, .int .i64 0, .int .i64 0, .slice none 0 0] 48 (0, 0))))
  have HG1 := Lib.hid (grown_below (Lib.grownBy_trans (World.grownBy_alloc w (.cells #[.int .i64 0, .int .i64 0, .int .i64 0, .slice none 0 0, .int .i64 0, .int .i64 0, .int .i64 0, .int .i64 0, .int .i64 0, .slice none 0 0] 48) (some g)) hg1) ((Below.refl w1.heap.size w1).alloc (Nat.le_refl _) (.cells #[.int .i64 0, .int .i64 0, .int .i64 0, .slice none 0 0, .int .i64 5, .int .i64 0, .int .i64 0, .int .i64 0, .int .i64 0, .slice none 0 0] 48 (0, 0))))
  have hwr : w.heap.size < w1.heap.size := by have := hg1.size; simp at this; omega
  have HR1 := Lib.hid hr1
  have HT1 := Lib.hid ht1
  clear hn1 hg1 hr1 ht1
  go_wp2_with fail
  refine (HC.out _ HN1.out).mono ?_
  rintro e w2 ⟨rfl, hn2, hg2⟩
  have hr2 := blk_grown HR1.out hg2 (by simp; omega)
  have ht2 := blk_grown HT1.out hg2 (by simp; omega)
  have f2_8 := blk_frozen hr2 8
  have e2_8 := blk_cell hr2 8
  simp at e2_8
  have HS2 : Hid (w2.grownBy (w2.setCell ⟨w1.heap.size, 8, none⟩ (.int .i64 x)) (some w1.heap.size)) := Lib.hid (Lib.grownBy_setCell w2 w1.heap.size 8 (.int .i64 x))
  have HR2 : Hid ((w2.setCell ⟨w1.heap.size, 8, none⟩ (.int .i64 x)).heap[w1.heap.size]? = some (.cells #[.int .i64 0, .int .i64 0, .int .i64 0, .slice none 0 0, .int .i64 5, .int .i64 0, .int .i64 0, .int .i64 0, .int .i64 x, .slice none 0 0] 48 (0, 0))) := Lib.hid (by simpa using blk_set (hr2) 8 (.int .i64 x))
  have HT2 : Hid ((w2.setCell ⟨w1.heap.size, 8, none⟩ (.int .i64 x)).heap[w.heap.size]? = some (.cells #[.int .i64 0, .int .i64 0, .int .i64 0, .slice none 0 0, .int .i64 0, .int .i64 0, .int .i64 0, .int .i64 0, .int .i64 0, .slice none 0 0] 48 (0, 0))) := Lib.hid (blk_grown ht2 HS2.out (by simp; omega))
  have HN2 := Lib.hid (hn2.far HS2.out (fun k e => by injection e with e; omega) (by simp; omega))
  have HG2 := Lib.hid (grown_then (Lib.grownBy_trans HG1.out hg2) HS2.out (fun k e => .inl (by injection e with e; omega)))
  have hp := HR2.out
  have ht := HT2.out
  have hq := put10_blk (w2.setCell ⟨w1.heap.size, 8, none⟩ (.int .i64 x)) w.heap.size _ _ _ _ _ _ _ _ _ _ _ (.int .i64 0) (.int .i64 0) (.int .i64 0) (.slice none 0 0) (.int .i64 5) (.int .i64 0) (.int .i64 0) (.int .i64 0) (.int .i64 x) (.slice none 0 0) ht
  have p0 := blk_cell hp 0
  have p1 := blk_cell hp 1
  have p2 := blk_cell hp 2
  have p3 := blk_cell hp 3
  have p4 := blk_cell hp 4
  have p5 := blk_cell hp 5
  have p6 := blk_cell hp 6
  have p7 := blk_cell hp 7
  have p8 := blk_cell hp 8
  have p9 := blk_cell hp 9
  have t0 := blk_cell ht 0
  have f0 := blk_frozen ht 0
  have t1 := blk_cell ht 1
  have f1 := blk_frozen ht 1
  have t2 := blk_cell ht 2
  have f2 := blk_frozen ht 2
  have t3 := blk_cell ht 3
  have f3 := blk_frozen ht 3
  have t4 := blk_cell ht 4
  have f4 := blk_frozen ht 4
  have t5 := blk_cell ht 5
  have f5 := blk_frozen ht 5
  have t6 := blk_cell ht 6
  have f6 := blk_frozen ht 6
  have t7 := blk_cell ht 7
  have f7 := blk_frozen ht 7
  have t8 := blk_cell ht 8
  have f8 := blk_frozen ht 8
  have t9 := blk_cell ht 9
  have f9 := blk_frozen ht 9
  have r0 := blk_cell hq.1 0
  have r1 := blk_cell hq.1 1
  have r2 := blk_cell hq.1 2
  have r3 := blk_cell hq.1 3
  have r4 := blk_cell hq.1 4
  have r5 := blk_cell hq.1 5
  have r6 := blk_cell hq.1 6
  have r7 := blk_cell hq.1 7
  have r8 := blk_cell hq.1 8
  have r9 := blk_cell hq.1 9
  simp at p0 t0 r0
  simp at p1 t1 r1
  simp at p2 t2 r2
  simp at p3 t3 r3
  simp at p4 t4 r4
  simp at p5 t5 r5
  simp at p6 t6 r6
  simp at p7 t7 r7
  simp at p8 t8 r8
  simp at p9 t9 r9
  have HQ := Lib.hid hq.2
  have HTT := Lib.hid ht
  clear hp ht hq
  go_wp2
  exact bodyPost_ret (v := .agg #[.int .i64 0, .int .i64 0, .int .i64 0, .slice none 0 0, .int .i64 5, .int .i64 0, .int .i64 0, .int .i64 0, .int .i64 x, .slice none 0 0]) (by simp [results, Try.results53, go_sem, r0, r1, r2, r3, r4, r5, r6, r7, r8, r9]) rfl ⟨_, _, rfl, keepR (Kd.R_nil _ _ _ _ _) HTT.out HQ.out (by decide), keepR (nilR) HTT.out HQ.out (by decide), HN2.out.far HQ.out (fun k e => by injection e with e; omega) (by simp; omega), grown_then HG2.out HQ.out (fun k e => .inl (by injection e with e; omega))⟩
set_option maxHeartbeats 4000000 in
set_option maxRecDepth 100000 in
theorem reply_3 (w0 w : World) (g : Nat) (q : List Int × Bool) (h : Ns w0 w g q.1 q.2) (hk : nextF q.1 = 3) :
    Calls Try.prog 53 #[.pointer (some ⟨g, 0, none⟩)] w fun e w' => ReplyPost w0 w g (kindR 3 (nextR q)) e w' := by
  have hgl := h.lt
  have hgw0 : w0.heap.size ≤ g := h.2.1
  have HX := Lib.hid (next_q w0 _ g q (h.grow ((Below.refl w.heap.size w).alloc (Nat.le_refl _) (.cells #[.int .i64 0, .int .i64 0, .int .i64 0, .slice none 0 0, .int .i64 0, .int .i64 0, .int .i64 0, .int .i64 0, .int .i64 0, .slice none 0 0] 48))))
  rw [hk] at HX
  clear h hk
  have hzl : (nextR q).1.length ≤ 1099511627776 → True := fun _ => trivial
  generalize nextR q = q1 at HX hzl ⊢
  clear hzl
  unfold kindR
  simp only [Int.reduceEq, if_true, if_false]
  have HC := Lib.hid (fun W => next_q w0 W g q1)
  have HC2 := Lib.hid (fun W => list_q w0 W g (nextR q1))
  generalize nextF q1.1 = x at HC ⊢
  generalize nextR q1 = q2 at HC HC2 ⊢
  generalize listF q2.1 = ls at HC2 ⊢
  go_enter Try.func53, Try.ntmps53
  go_wp2_with fail
  refine HX.out.mono ?_
  rintro e w1 ⟨rfl, hn1, hg1⟩
  have hr1 := blk_new w1 (.cells #[.int .i64 0, .int .i64 0, .int .i64 0, .slice none 0 0, .int .i64 3, .int .i64 0, .int .i64 0, .int .i64 0, .int .i64 0, .slice none 0 0] 48 (0, 0))
  have ht1 := blk_alloc (blk_grown (blk_new w (.cells #[.int .i64 0, .int .i64 0, .int .i64 0, .slice none 0 0, .int .i64 0, .int .i64 0, .int .i64 0, .int .i64 0, .int .i64 0, .slice none 0 0] 48 (0, 0))) hg1 (by simp; omega)) (.cells #[.int .i64 0, .int .i64 0, .int .i64 0, .slice none 0 0, .int .i64 3, .int .i64 0, .int .i64 0, .int .i64 0, .int .i64 0, .slice none 0 0] 48 (0, 0))
  have HN1 := Lib.hid (hn1.grow ((Below.refl w1.heap.size w1).alloc (Nat.le_refl _) (.cells #[.int .i64 0, .int .i64 0, .int .i64 0, .slice none 0 0, .int .i64 3, .int .i64 0, .int .i64 0, .int .i64 0, .int .i64 0, .slice none 0 0] 48 (0, 0))))
  have HG1 := Lib.hid (grown_below (Lib.grownBy_trans (World.grownBy_alloc w (.cells #[.int .i64 0, .int .i64 0, .int .i64 0, .slice none 0 0, .int .i64 0, .int .i64 0, .int .i64 0, .int .i64 0, .int .i64 0, .slice none 0 0] 48) (some g)) hg1) ((Below.refl w1.heap.size w1).alloc (Nat.le_refl _) (.cells #[.int .i64 0, .int .i64 0, .int .i64 0, .slice none 0 0, .int .i64 3, .int .i64 0, .int .i64 0, .int .i64 0, .int .i64 0, .slice none 0 0] 48 (0, 0))))
  have hwr : w.heap.size < w1.heap.size := by have := hg1.size; simp at this; omega
  have HR1 := Lib.hid hr1
  have HT1 := Lib.hid ht1
  clear hn1 hg1 hr1 ht1
  go_wp2_with fail
  refine (HC.out _ HN1.out).mono ?_
  rintro e w2 ⟨rfl, hn2, hg2⟩
  have hr2 := blk_grown HR1.out hg2 (by simp; omega)
  have ht2 := blk_grown HT1.out hg2 (by simp; omega)
  have f2_2 := blk_frozen hr2 2
  have e2_2 := blk_cell hr2 2
  simp at e2_2
  have HS2 : Hid (w2.grownBy (w2.setCell ⟨w1.heap.size, 2, none⟩ (.int .i64 x)) (some w1.heap.size)) := Lib.hid (Lib.grownBy_setCell w2 w1.heap.size 2 (.int .i64 x))
  have HR2 : Hid ((w2.setCell ⟨w1.heap.size, 2, none⟩ (.int .i64 x)).heap[w1.heap.size]? = some (.cells #[.int .i64 0, .int .i64 0, .int .i64 x, .slice none 0 0, .int .i64 3, .int .i64 0, .int .i64 0, .int .i64 0, .int .i64 0, .slice none 0 0] 48 (0, 0))) := Lib.hid (by simpa using blk_set (hr2) 2 (.int .i64 x))
  have HT2 : Hid ((w2.setCell ⟨w1.heap.size, 2, none⟩ (.int .i64 x)).heap[w.heap.size]? = some (.cells #[.int .i64 0, .int .i64 0, .int .i64 0, .slice none 0 0, .int .i64 0, .int .i64 0, .int .i64 0, .int .i64 0, .int .i64 0, .slice none 0 0] 48 (0, 0))) := Lib.hid (blk_grown ht2 HS2.out (by simp; omega))
  have HN2 := Lib.hid (hn2.far HS2.out (fun k e => by injection e with e; omega) (by simp; omega))
  have HG2 := Lib.hid (grown_then (Lib.grownBy_trans HG1.out hg2) HS2.out (fun k e => .inl (by injection e with e; omega)))
  go_wp2_with fail
  refine (HC2.out _ HN2.out).mono ?_
  rintro e w3 ⟨v5, rfl, hr5, hn3, hg3⟩
  obtain ⟨A5, c5, rfl⟩ := Kd.R_slice hr5
  have hbse : w.heap.size ≤ _ := HG2.out.size
  have hr3 := blk_grown HR2.out hg3 (by simp; omega)
  have ht3 := blk_grown HT2.out hg3 (by simp; omega)
  have f3_3 := blk_frozen hr3 3
  have e3_3 := blk_cell hr3 3
  simp at e3_3
  have HS3 : Hid (w3.grownBy (w3.setCell ⟨w1.heap.size, 3, none⟩ (.slice A5 ls.length c5)) (some w1.heap.size)) := Lib.hid (Lib.grownBy_setCell w3 w1.heap.size 3 (.slice A5 ls.length c5))
  have HR3 : Hid ((w3.setCell ⟨w1.heap.size, 3, none⟩ (.slice A5 ls.length c5)).heap[w1.heap.size]? = some (.cells #[.int .i64 0, .int .i64 0, .int .i64 x, .slice A5 ls.length c5, .int .i64 3, .int .i64 0, .int .i64 0, .int .i64 0, .int .i64 0, .slice none 0 0] 48 (0, 0))) := Lib.hid (by simpa using blk_set (hr3) 3 (.slice A5 ls.length c5))
  have HT3 : Hid ((w3.setCell ⟨w1.heap.size, 3, none⟩ (.slice A5 ls.length c5)).heap[w.heap.size]? = some (.cells #[.int .i64 0, .int .i64 0, .int .i64 0, .slice none 0 0, .int .i64 0, .int .i64 0, .int .i64 0, .int .i64 0, .int .i64 0, .slice none 0 0] 48 (0, 0))) := Lib.hid (blk_grown ht3 HS3.out (by simp; omega))
  have HN3 := Lib.hid (hn3.far HS3.out (fun k e => by injection e with e; omega) (by simp; omega))
  have HG3 := Lib.hid (grown_then (Lib.grownBy_trans HG2.out hg3) HS3.out (fun k e => .inl (by injection e with e; omega)))
  have HL5 : Hid (Kd.R (Kd.int .i64) 3 (w3.setCell ⟨w1.heap.size, 3, none⟩ (.slice A5 ls.length c5)) w.heap.size (fun _ => True) (.slice A5 ls.length c5) ls) := Lib.hid (keepR (Kd.R_lower hr5 hbse) hr3 HS3.out (by decide))
  have hp := HR3.out
  have ht := HT3.out
  have hq := put10_blk (w3.setCell ⟨w1.heap.size, 3, none⟩ (.slice A5 ls.length c5)) w.heap.size _ _ _ _ _ _ _ _ _ _ _ (.int .i64 0) (.int .i64 0) (.int .i64 x) (.slice A5 ls.length c5) (.int .i64 3) (.int .i64 0) (.int .i64 0) (.int .i64 0) (.int .i64 0) (.slice none 0 0) ht
  have p0 := blk_cell hp 0
  have p1 := blk_cell hp 1
  have p2 := blk_cell hp 2
  have p3 := blk_cell hp 3
  have p4 := blk_cell hp 4
  have p5 := blk_cell hp 5
  have p6 := blk_cell hp 6
  have p7 := blk_cell hp 7
  have p8 := blk_cell hp 8
  have p9 := blk_cell hp 9
  have t0 := blk_cell ht 0
  have f0 := blk_frozen ht 0
  have t1 := blk_cell ht 1
  have f1 := blk_frozen ht 1
  have t2 := blk_cell ht 2
  have f2 := blk_frozen ht 2
  have t3 := blk_cell ht 3
  have f3 := blk_frozen ht 3
  have t4 := blk_cell ht 4
  have f4 := blk_frozen ht 4
  have t5 := blk_cell ht 5
  have f5 := blk_frozen ht 5
  have t6 := blk_cell ht 6
  have f6 := blk_frozen ht 6
  have t7 := blk_cell ht 7
  have f7 := blk_frozen ht 7
  have t8 := blk_cell ht 8
  have f8 := blk_frozen ht 8
  have t9 := blk_cell ht 9
  have f9 := blk_frozen ht 9
  have r0 := blk_cell hq.1 0
  have r1 := blk_cell hq.1 1
  have r2 := blk_cell hq.1 2
  have r3 := blk_cell hq.1 3
  have r4 := blk_cell hq.1 4
  have r5 := blk_cell hq.1 5
  have r6 := blk_cell hq.1 6
  have r7 := blk_cell hq.1 7
  have r8 := blk_cell hq.1 8
  have r9 := blk_cell hq.1 9
  simp at p0 t0 r0
  simp at p1 t1 r1
  simp at p2 t2 r2
  simp at p3 t3 r3
  simp at p4 t4 r4
  simp at p5 t5 r5
  simp at p6 t6 r6
  simp at p7 t7 r7
  simp at p8 t8 r8
  simp at p9 t9 r9
  have HQ := Lib.hid hq.2
  have HTT := Lib.hid ht
  clear hp ht hq
  go_wp2
  exact bodyPost_ret (v := .agg #[.int .i64 0, .int .i64 0, .int .i64 x, .slice A5 ls.length c5, .int .i64 3, .int .i64 0, .int .i64 0, .int .i64 0, .int .i64 0, .slice none 0 0]) (by simp [results, Try.results53, go_sem, r0, r1, r2, r3, r4, r5, r6, r7, r8, r9]) rfl ⟨_, _, rfl, keepR (HL5.out) HTT.out HQ.out (by decide), keepR (nilR) HTT.out HQ.out (by decide), HN3.out.far HQ.out (fun k e => by injection e with e; omega) (by simp; omega), grown_then HG3.out HQ.out (fun k e => .inl (by injection e with e; omega))⟩
set_option maxHeartbeats 4000000 in
set_option maxRecDepth 100000 in
theorem reply_0 (w0 w : World) (g : Nat) (q : List Int × Bool) (kd : Int) (h : Ns w0 w g q.1 q.2) (hk : nextF q.1 = kd) (h1 : (kd == 1) = false) (h2 : (kd == 2) = false) (h3 : (kd == 3) = false) (h5 : (kd == 5) = false) :
    Calls Try.prog 53 #[.pointer (some ⟨g, 0, none⟩)] w fun e w' => ReplyPost w0 w g (kindR kd (nextR q)) e w' := by
  have hgl := h.lt
  have hgw0 : w0.heap.size ≤ g := h.2.1
  have HX := Lib.hid (next_q w0 _ g q (h.grow ((Below.refl w.heap.size w).alloc (Nat.le_refl _) (.cells #[.int .i64 0, .int .i64 0, .int .i64 0, .slice none 0 0, .int .i64 0, .int .i64 0, .int .i64 0, .int .i64 0, .int .i64 0, .slice none 0 0] 48))))
  rw [hk] at HX
  clear h hk
  have hzl : (nextR q).1.length ≤ 1099511627776 → True := fun _ => trivial
  generalize nextR q = q1 at HX hzl ⊢
  clear hzl
  unfold kindR
  rw [if_neg (by simpa using h1), if_neg (by simpa using h2), if_neg (by simpa using h3), if_neg (by simpa using h5)]
  go_enter Try.func53, Try.ntmps53
  go_wp2_with fail
  refine HX.out.mono ?_
  rintro e w1 ⟨rfl, hn1, hg1⟩
  have hr1 := blk_new w1 (.cells #[.int .i64 0, .int .i64 0, .int .i64 0, .slice none 0 0, .int .i64 kd, .int .i64 0, .int .i64 0, .int .i64 0, .int .i64 0, .slice none 0 0] 48 (0, 0))
  have HT0 := Lib.hid (blk_grown (blk_new w (.cells #[.int .i64 0, .int .i64 0, .int .i64 0, .slice none 0 0, .int .i64 0, .int .i64 0, .int .i64 0, .int .i64 0, .int .i64 0, .slice none 0 0] 48 (0, 0))) hg1 (by simp; omega))
  have ht1 := blk_alloc (blk_grown (blk_new w (.cells #[.int .i64 0, .int .i64 0, .int .i64 0, .slice none 0 0, .int .i64 0, .int .i64 0, .int .i64 0, .int .i64 0, .int .i64 0, .slice none 0 0] 48 (0, 0))) hg1 (by simp; omega)) (.cells #[.int .i64 0, .int .i64 0, .int .i64 0, .slice none 0 0, .int .i64 kd, .int .i64 0, .int .i64 0, .int .i64 0, .int .i64 0, .slice none 0 0] 48 (0, 0))
  have HN1 := Lib.hid (hn1.grow ((Below.refl w1.heap.size w1).alloc (Nat.le_refl _) (.cells #[.int .i64 0, .int .i64 0, .int .i64 0, .slice none 0 0, .int .i64 kd, .int .i64 0, .int .i64 0, .int .i64 0, .int .i64 0, .slice none 0 0] 48 (0, 0))))
  have HG1 := Lib.hid (grown_below (Lib.grownBy_trans (World.grownBy_alloc w (.cells #[.int .i64 0, .int .i64 0, .int .i64 0, .slice none 0 0, .int .i64 0, .int .i64 0, .int .i64 0, .int .i64 0, .int .i64 0, .slice none 0 0] 48) (some g)) hg1) ((Below.refl w1.heap.size w1).alloc (Nat.le_refl _) (.cells #[.int .i64 0, .int .i64 0, .int .i64 0, .slice none 0 0, .int .i64 kd, .int .i64 0, .int .i64 0, .int .i64 0, .int .i64 0, .slice none 0 0] 48 (0, 0))))
  have hwr : w.heap.size < w1.heap.size := by have := hg1.size; simp at this; omega
  have HR1 := Lib.hid hr1
  have HT1 := Lib.hid ht1
  clear hn1 hg1 hr1 ht1
  iterate 84 (first | go_values | go_skip | go_guarded | go_step | go_upon | go_back | (simp only [Int.not_lt, Int.not_le] at *; go_simp))
  generalize (w1.alloc (.cells #[.int .i64 0, .int .i64 0, .int .i64 0, .slice none 0 0, .int .i64 kd, .int .i64 0, .int .i64 0, .int .i64 0, .int .i64 0, .slice none 0 0] 48 (0, 0))) = W2 at HR1 HT1 HN1 HG1 ⊢
  have ht := HT1.out
  have t0 := blk_cell ht 0
  have f0 := blk_frozen ht 0
  simp at t0
  have t1 := blk_cell ht 1
  have f1 := blk_frozen ht 1
  simp at t1
  have t2 := blk_cell ht 2
  have f2 := blk_frozen ht 2
  simp at t2
  have t3 := blk_cell ht 3
  have f3 := blk_frozen ht 3
  simp at t3
  have t4 := blk_cell ht 4
  have f4 := blk_frozen ht 4
  simp at t4
  have t5 := blk_cell ht 5
  have f5 := blk_frozen ht 5
  simp at t5
  have t6 := blk_cell ht 6
  have f6 := blk_frozen ht 6
  simp at t6
  have t7 := blk_cell ht 7
  have f7 := blk_frozen ht 7
  simp at t7
  have t8 := blk_cell ht 8
  have f8 := blk_frozen ht 8
  simp at t8
  have t9 := blk_cell ht 9
  have f9 := blk_frozen ht 9
  simp at t9
  clear ht
  go_wp2
  have HTT := HT1
  have hq := put10_blk W2 w.heap.size _ _ _ _ _ _ _ _ _ _ _ (.int .i64 0) (.int .i64 0) (.int .i64 0) (.slice none 0 0) (.int .i64 kd) (.int .i64 0) (.int .i64 0) (.int .i64 0) (.int .i64 0) (.slice none 0 0) HTT.out
  have r0 := blk_cell hq.1 0
  simp at r0
  have r1 := blk_cell hq.1 1
  simp at r1
  have r2 := blk_cell hq.1 2
  simp at r2
  have r3 := blk_cell hq.1 3
  simp at r3
  have r4 := blk_cell hq.1 4
  simp at r4
  have r5 := blk_cell hq.1 5
  simp at r5
  have r6 := blk_cell hq.1 6
  simp at r6
  have r7 := blk_cell hq.1 7
  simp at r7
  have r8 := blk_cell hq.1 8
  simp at r8
  have r9 := blk_cell hq.1 9
  simp at r9
  have HQ := Lib.hid hq.2
  clear hq
  exact bodyPost_ret (v := .agg #[.int .i64 0, .int .i64 0, .int .i64 0, .slice none 0 0, .int .i64 kd, .int .i64 0, .int .i64 0, .int .i64 0, .int .i64 0, .slice none 0 0]) (by simp [results, Try.results53, go_sem, r0, r1, r2, r3, r4, r5, r6, r7, r8, r9]) rfl ⟨_, _, rfl, keepR (Kd.R_nil _ _ _ _ _) HTT.out HQ.out (by decide), keepR (nilR) HTT.out HQ.out (by decide), HN1.out.far HQ.out (fun k e => by injection e with e; omega) (by simp; omega), grown_then HG1.out HQ.out (fun k e => .inl (by injection e with e; omega))⟩
end Go.Proofs.Yteikgpdjfhdneaa.Man
namespace Go.Proofs.Yteikgpdjfhdneaa.Man
open Go.RowKit Go.Proofs.Yteikgpdjfhdneaa.QT Go.Proofs.YteikgpdjfhdneaaW.PrintWords Go.Proofs.YteikgpdjfhdneaaW.PrintLast Go.Proofs.YteikgpdjfhdneaaW.PrintMore
def ReplyAt (w0 w : World) (g pb : Nat) (a b x1 x2 : Int) (q : List Int × Bool) (n : Nat) (i : Value) (w' : World) : Prop := ∃ (k : Nat) (Av : Option Addr) (cv : Nat), i = .int .i64 (k : Int) ∧ k ≤ n ∧ w'.heap[pb]? = some (.cells #[.int .i64 a, .int .i64 b, .int .i64 0, .slice none 0 0, .int .i64 2, .int .i64 0, .int .i64 x1, .int .i64 x2, .int .i64 0, .slice Av (piecesR q k).1.length cv] 48 (0, 0)) ∧ w'.heap[w.heap.size]? = some (.cells #[.int .i64 0, .int .i64 0, .int .i64 0, .slice none 0 0, .int .i64 0, .int .i64 0, .int .i64 0, .int .i64 0, .int .i64 0, .slice none 0 0] 48 (0, 0)) ∧ Kd.R k76 76 w' w.heap.size (fun _ => True) (.slice Av (piecesR q k).1.length cv) (piecesR q k).1 ∧ Ns w0 w' g (piecesR q k).2.1 (piecesR q k).2.2 ∧ w.grownBy w' (some g)
set_option maxHeartbeats 4000000 in
set_option maxRecDepth 100000 in
theorem reply_2 (w0 w : World) (g : Nat) (q : List Int × Bool) (h : Ns w0 w g q.1 q.2) (hk : nextF q.1 = 2) :
    Calls Try.prog 53 #[.pointer (some ⟨g, 0, none⟩)] w fun e w' => ReplyPost w0 w g (kindR 2 (nextR q)) e w' := by
  have hgl := h.lt
  have hgw0 : w0.heap.size ≤ g := h.2.1
  have hnb : (cntF (spanR (nextR (nextR (nextR q)))).1).toNat ≤ 1099511627776 := by
    have h1 := cntF_le (spanR (nextR (nextR (nextR q)))).1
    have h2 := h.2.2.1
    simp [spanR, nextR] at h1 ⊢
    omega
  have HX := Lib.hid (next_q w0 _ g q (h.grow ((Below.refl w.heap.size w).alloc (Nat.le_refl _) (.cells #[.int .i64 0, .int .i64 0, .int .i64 0, .slice none 0 0, .int .i64 0, .int .i64 0, .int .i64 0, .int .i64 0, .int .i64 0, .slice none 0 0] 48))))
  rw [hk] at HX
  clear h hk
  have hzl : (nextR q).1.length ≤ 1099511627776 → True := fun _ => trivial
  generalize nextR q = q1 at HX hzl hnb ⊢
  clear hzl
  unfold kindR
  simp only [Int.reduceEq, if_true, if_false]
  have HC1 := Lib.hid (fun W => next_q w0 W g q1)
  have HC2 := Lib.hid (fun W => next_q w0 W g (nextR q1))
  have HC3 := Lib.hid (fun W => span_q w0 W g (nextR (nextR q1)))
  have HC4 := Lib.hid (fun W => count_q w0 W g (spanR (nextR (nextR q1))))
  generalize nextF q1.1 = x1 at HC1 ⊢
  generalize nextR q1 = q2 at HC1 HC2 HC3 HC4 hnb ⊢
  generalize nextF q2.1 = x2 at HC2 ⊢
  generalize nextR q2 = q3 at HC2 HC3 HC4 hnb ⊢
  generalize nextF q3.1 = a at HC3 ⊢
  generalize nextF q3.1.tail = b at HC3 ⊢
  generalize spanR q3 = q4 at HC3 HC4 hnb ⊢
  generalize cntF q4.1 = n at HC4 hnb ⊢
  generalize cntR q4 = q5 at HC4 ⊢
  go_enter Try.func53, Try.ntmps53
  go_wp2_with fail
  refine HX.out.mono ?_
  rintro e w1 ⟨rfl, hn1, hg1⟩
  have hr1 := blk_new w1 (.cells #[.int .i64 0, .int .i64 0, .int .i64 0, .slice none 0 0, .int .i64 2, .int .i64 0, .int .i64 0, .int .i64 0, .int .i64 0, .slice none 0 0] 48 (0, 0))
  have ht1 := blk_alloc (blk_grown (blk_new w (.cells #[.int .i64 0, .int .i64 0, .int .i64 0, .slice none 0 0, .int .i64 0, .int .i64 0, .int .i64 0, .int .i64 0, .int .i64 0, .slice none 0 0] 48 (0, 0))) hg1 (by simp; omega)) (.cells #[.int .i64 0, .int .i64 0, .int .i64 0, .slice none 0 0, .int .i64 2, .int .i64 0, .int .i64 0, .int .i64 0, .int .i64 0, .slice none 0 0] 48 (0, 0))
  have HN1 := Lib.hid (hn1.grow ((Below.refl w1.heap.size w1).alloc (Nat.le_refl _) (.cells #[.int .i64 0, .int .i64 0, .int .i64 0, .slice none 0 0, .int .i64 2, .int .i64 0, .int .i64 0, .int .i64 0, .int .i64 0, .slice none 0 0] 48 (0, 0))))
  have HG1 := Lib.hid (grown_below (Lib.grownBy_trans (World.grownBy_alloc w (.cells #[.int .i64 0, .int .i64 0, .int .i64 0, .slice none 0 0, .int .i64 0, .int .i64 0, .int .i64 0, .int .i64 0, .int .i64 0, .slice none 0 0] 48) (some g)) hg1) ((Below.refl w1.heap.size w1).alloc (Nat.le_refl _) (.cells #[.int .i64 0, .int .i64 0, .int .i64 0, .slice none 0 0, .int .i64 2, .int .i64 0, .int .i64 0, .int .i64 0, .int .i64 0, .slice none 0 0] 48 (0, 0))))
  have hwr : w.heap.size < w1.heap.size := by have := hg1.size; simp at this; omega
  have HR1 := Lib.hid hr1
  have HT1 := Lib.hid ht1
  clear hn1 hg1 hr1 ht1
  go_wp2_with fail
  refine (HC1.out _ HN1.out).mono ?_
  rintro e w2 ⟨rfl, hn2, hg2⟩
  have hr2 := blk_grown HR1.out hg2 (by simp; omega)
  have ht2 := blk_grown HT1.out hg2 (by simp; omega)
  have f2_6 := blk_frozen hr2 6
  have e2_6 := blk_cell hr2 6
  simp at e2_6
  have HS2 : Hid (w2.grownBy (w2.setCell ⟨w1.heap.size, 6, none⟩ (.int .i64 x1)) (some w1.heap.size)) := Lib.hid (Lib.grownBy_setCell w2 w1.heap.size 6 (.int .i64 x1))
  have HR2 : Hid ((w2.setCell ⟨w1.heap.size, 6, none⟩ (.int .i64 x1)).heap[w1.heap.size]? = some (.cells #[.int .i64 0, .int .i64 0, .int .i64 0, .slice none 0 0, .int .i64 2, .int .i64 0, .int .i64 x1, .int .i64 0, .int .i64 0, .slice none 0 0] 48 (0, 0))) := Lib.hid (by simpa using blk_set (hr2) 6 (.int .i64 x1))
  have HT2 : Hid ((w2.setCell ⟨w1.heap.size, 6, none⟩ (.int .i64 x1)).heap[w.heap.size]? = some (.cells #[.int .i64 0, .int .i64 0, .int .i64 0, .slice none 0 0, .int .i64 0, .int .i64 0, .int .i64 0, .int .i64 0, .int .i64 0, .slice none 0 0] 48 (0, 0))) := Lib.hid (blk_grown ht2 HS2.out (by simp; omega))
  have HN2 := Lib.hid (hn2.far HS2.out (fun k e => by injection e with e; omega) (by simp; omega))
  have HG2 := Lib.hid (grown_then (Lib.grownBy_trans HG1.out hg2) HS2.out (fun k e => .inl (by injection e with e; omega)))
  go_wp2_with fail
  refine (HC2.out _ HN2.out).mono ?_
  rintro e w3 ⟨rfl, hn3, hg3⟩
  have hr3 := blk_grown HR2.out hg3 (by simp; omega)
  have ht3 := blk_grown HT2.out hg3 (by simp; omega)
  have f3_7 := blk_frozen hr3 7
  have e3_7 := blk_cell hr3 7
  simp at e3_7
  have HS3 : Hid (w3.grownBy (w3.setCell ⟨w1.heap.size, 7, none⟩ (.int .i64 x2)) (some w1.heap.size)) := Lib.hid (Lib.grownBy_setCell w3 w1.heap.size 7 (.int .i64 x2))
  have HR3 : Hid ((w3.setCell ⟨w1.heap.size, 7, none⟩ (.int .i64 x2)).heap[w1.heap.size]? = some (.cells #[.int .i64 0, .int .i64 0, .int .i64 0, .slice none 0 0, .int .i64 2, .int .i64 0, .int .i64 x1, .int .i64 x2, .int .i64 0, .slice none 0 0] 48 (0, 0))) := Lib.hid (by simpa using blk_set (hr3) 7 (.int .i64 x2))
  have HT3 : Hid ((w3.setCell ⟨w1.heap.size, 7, none⟩ (.int .i64 x2)).heap[w.heap.size]? = some (.cells #[.int .i64 0, .int .i64 0, .int .i64 0, .slice none 0 0, .int .i64 0, .int .i64 0, .int .i64 0, .int .i64 0, .int .i64 0, .slice none 0 0] 48 (0, 0))) := Lib.hid (blk_grown ht3 HS3.out (by simp; omega))
  have HN3 := Lib.hid (hn3.far HS3.out (fun k e => by injection e with e; omega) (by simp; omega))
  have HG3 := Lib.hid (grown_then (Lib.grownBy_trans HG2.out hg3) HS3.out (fun k e => .inl (by injection e with e; omega)))
  go_wp2_with fail
  refine (HC3.out _ HN3.out).mono ?_
  rintro e w4 ⟨rfl, hn4, hg4⟩
  have hr4 := blk_grown HR3.out hg4 (by simp; omega)
  have ht4 := blk_grown HT3.out hg4 (by simp; omega)
  have f4_0 := blk_frozen hr4 0
  have e4_0 := blk_cell hr4 0
  simp at e4_0
  have f4_1 := blk_frozen hr4 1
  have e4_1 := blk_cell hr4 1
  simp at e4_1
  have HS4 : Hid (w4.grownBy ((w4.setCell ⟨w1.heap.size, 0, none⟩ (.int .i64 a)).setCell ⟨w1.heap.size, 1, none⟩ (.int .i64 b)) (some w1.heap.size)) := Lib.hid (Lib.grownBy_setB (Lib.grownBy_setCell w4 w1.heap.size 0 (.int .i64 a)) 1 (.int .i64 b))
  have HR4 : Hid (((w4.setCell ⟨w1.heap.size, 0, none⟩ (.int .i64 a)).setCell ⟨w1.heap.size, 1, none⟩ (.int .i64 b)).heap[w1.heap.size]? = some (.cells #[.int .i64 a, .int .i64 b, .int .i64 0, .slice none 0 0, .int .i64 2, .int .i64 0, .int .i64 x1, .int .i64 x2, .int .i64 0, .slice none 0 0] 48 (0, 0))) := Lib.hid (by simpa using blk_set (blk_set (hr4) 0 (.int .i64 a)) 1 (.int .i64 b))
  have HT4 : Hid (((w4.setCell ⟨w1.heap.size, 0, none⟩ (.int .i64 a)).setCell ⟨w1.heap.size, 1, none⟩ (.int .i64 b)).heap[w.heap.size]? = some (.cells #[.int .i64 0, .int .i64 0, .int .i64 0, .slice none 0 0, .int .i64 0, .int .i64 0, .int .i64 0, .int .i64 0, .int .i64 0, .slice none 0 0] 48 (0, 0))) := Lib.hid (blk_grown ht4 HS4.out (by simp; omega))
  have HN4 := Lib.hid (hn4.far HS4.out (fun k e => by injection e with e; omega) (by simp; omega))
  have HG4 := Lib.hid (grown_then (Lib.grownBy_trans HG3.out hg4) HS4.out (fun k e => .inl (by injection e with e; omega)))
  go_wp2_with fail
  refine (HC4.out _ HN4.out).mono ?_
  rintro e w5 ⟨rfl, hn5, hg5⟩
  have hr5 := blk_grown HR4.out hg5 (by simp; omega)
  have ht5 := blk_grown HT4.out hg5 (by simp; omega)
  have HR5 := Lib.hid hr5
  have HT5 := Lib.hid ht5
  have HN5 := Lib.hid hn5
  have HG5 := Lib.hid (Lib.grownBy_trans HG4.out hg5)
  obtain ⟨pb, hpb⟩ : ∃ pb, w1.heap.size = pb := ⟨_, rfl⟩
  rw [hpb] at HR5 hwr ⊢
  clear hr2 ht2 hn2 hg2 hr3 ht3 hn3 hg3 hr4 ht4 hn4 hg4 hr5 ht5 hn5 hg5 HN1 HG1 HR1 HT1 HS2 HR2 HT2 HN2 HG2 HS3 HR3 HT3 HN3 HG3 HS4 HR4 HT4 HN4 HG4 HX HC1 HC2 HC3 HC4 hpb f2_6 e2_6 f3_7 e3_7 f4_0 e4_0 f4_1 e4_1
  go_wp2_with fail
  go_loopw [27] (ReplyAt w0 w g pb a b x1 x2 q5 n.toNat) (fun i _ => n.toNat - (intOf i).toNat)
  case atStart => exact ⟨0, none, 0, rfl, Nat.zero_le _, HR5.out, HT5.out, Kd.R_nil _ _ _ _ _, HN5.out, HG5.out⟩
  case round =>
    obtain ⟨k, Av, cv, rfl, hk, hp, ht, ho, hn, hgr⟩ := hrel
    have HO := Lib.hid ho
    have HP := Lib.hid hp
    have HT := Lib.hid ht
    have HN := Lib.hid hn
    have HG := Lib.hid hgr
    clear ho hn hgr hp ht
    by_cases hlt : (k : Int) < n
    · have hd : decide ((k : Int) < n) = true := decide_eq_true hlt
      have HX := piece_is w0 wr.drew g (piecesR q5 k).2 (HN.out.grow (Below.refl _ _).drew)
      have HYL : Hid ((piecesR q5 k).1.length = k) := Lib.hid (piecesR_len q5 k)
      have HSN1 : Hid ((piecesR q5 (k + 1)).1 = (piecesR q5 k).1 ++ [(pieceR (piecesR q5 k).2).1]) := Lib.hid rfl
      have HSN2 : Hid ((piecesR q5 (k + 1)).2 = (pieceR (piecesR q5 k).2).2) := Lib.hid rfl
      have HND := Lib.hid HN
      generalize (piecesR q5 k).1 = ys at HO HP HYL HSN1 ⊢
      generalize pieceR (piecesR q5 k).2 = pr at HX HSN1 HSN2
      obtain ⟨⟨⟨pf, pt⟩, pp⟩, q6⟩ := pr
      have HX := Lib.hid HX
      have HPD : Hid (wr.drew.heap[pb]? = some (.cells #[.int .i64 a, .int .i64 b, .int .i64 0, .slice none 0 0, .int .i64 2, .int .i64 0, .int .i64 x1, .int .i64 x2, .int .i64 0, .slice Av ys.length cv] 48 (0, 0))) := Lib.hid HP.out
      have HTD : Hid (wr.drew.heap[w.heap.size]? = some (.cells #[.int .i64 0, .int .i64 0, .int .i64 0, .slice none 0 0, .int .i64 0, .int .i64 0, .int .i64 0, .int .i64 0, .int .i64 0, .slice none 0 0] 48 (0, 0))) := Lib.hid HT.out
      have HGD := Lib.hid (grown_below HG.out (Below.refl wr.heap.size wr).drew)
      have HOD : Hid (Kd.R k76 76 wr.drew w.heap.size (fun k => k < wr.drew.heap.size) (.slice Av ys.length cv) ys) := Lib.hid (Kd.R_mono (Kd.R_bound (Kd.R_drew HO.out)) (fun k hk => hk.2.2.1))
      have hpw : pb < wr.drew.heap.size := blk_lt HPD.out
      have hww : w.heap.size < wr.drew.heap.size := by omega
      have pd9 := blk_cell HP.out 9
      simp at pd9
      go_wp2_with fail
      go_region_law (first
        | (go_simp; go_at_call 76; refine HX.out.mono ?_; rintro e w3 ⟨v3, rfl, hr3, hn3, hg3⟩; obtain ⟨A3, c3, rfl⟩ := Kd.R_slice hr3; have hs3 := hg3.size; have hpw3 : pb < w3.heap.size := Nat.lt_of_lt_of_le (blk_lt HPD.out) hs3; have HN3 := Lib.hid hn3; have HG3 := Lib.hid (Lib.grownBy_trans HGD.out hg3); have hp3 := blk_grown HPD.out hg3 (by simp; omega); have HP3 := Lib.hid hp3; have HT3 := Lib.hid (blk_grown HTD.out hg3 (by simp; omega)); have HO3 := Lib.hid (R_overG HOD.out hg3 hgl); have HM3 : Hid (Kd.M k76 w3 w.heap.size (fun k => wr.drew.heap.size ≤ k) ⟨⟨pf, pt⟩, pp⟩ [.int .i64 pf, .int .i64 pt, .slice A3 pp.length c3]) := Lib.hid (k76_mkM _ _ _ ⟨⟨pf, pt⟩, pp⟩ (Kd.R_lower (Kd.R_mono (Kd.R_bound hr3) (fun k hk => hk.2.1)) (by omega))); have p39 := blk_cell hp3 9; simp at p39; clear hr3 hn3 hg3 hp3)
        | (refine Kd.R_append_step k76 (w0 := w3) w.heap.size (by rfl) (.tmp 30) (.tmp 33) 46 76 (.agg #[.int .i64 0, .int .i64 0, .slice none 0 0]) 40 rfl Try.underlying46 info76 rfl (by decide) (by omega) (.slice Av ys.length cv) ys ⟨⟨pf, pt⟩, pp⟩ [.int .i64 pf, .int .i64 pt, .slice A3 pp.length c3] (fun _ => True) (fun k => wr.drew.heap.size ≤ k) rfl rfl ?aP ?aK ?aF ?aO ?aB ?aS ?aL ?_; (case aP => exact HM3.out); (case aK => exact (fun k hk => ⟨trivial, fun e => by have := HO3.out.1 k e.symm; omega⟩)); (case aF => exact (fun _ _ => trivial)); (case aO => exact (Kd.R_mono HO3.out (fun _ _ => trivial))); (case aB => exact Below.refl _ _); (case aS => omega); (case aL => (rw [HYL.out]; omega)); intro v7 w7 ho7 hb7 hg7 _; obtain ⟨A7, c7, rfl⟩ := Kd.R_slice ho7; generalize ys ++ [(⟨⟨pf, pt⟩, pp⟩ : Pce)] = ys7 at HSN1 ho7; have HO7 := Lib.hid ho7; have HG7 := Lib.hid hg7; have hp7 := blk_grown HP3.out hg7 (Kd.R_ne HO3.out HP3.out (by decide)); have HP7 := Lib.hid hp7; have HT7 := Lib.hid (blk_grown HT3.out hg7 (Kd.R_ne HO3.out HT3.out (by decide))); have f79 := blk_frozen hp7 9; have p79 := blk_cell hp7 9; simp at p79; clear ho7 hb7 hg7 hp7))
      all_goals (go_wp2_with fail)
      all_goals
        have HS7 : Hid (w7.grownBy (w7.setCell ⟨pb, 9, none⟩ (.slice A7 ys7.length c7)) (some pb)) := Lib.hid (Lib.grownBy_setCell w7 pb 9 _)
        have HY7 : Hid (Kd.R k76 76 (w7.setCell ⟨pb, 9, none⟩ (.slice A7 ys7.length c7)) w.heap.size (fun _ => True) (.slice A7 ys7.length c7) ys7) := Lib.hid (Kd.R_mono (Kd.R_far (Kd.R_types HO7.out HP7.out (by decide)) (fun k hk => hk.2) _) (fun _ _ => trivial))
        refine ⟨⟨k + 1, A7, c7, by go_num, by omega, ?_⟩, by simp [intOf]; omega⟩
        rw [HSN1.out, HSN2.out]
        exact ⟨by simpa using blk_set HP7.out 9 (.slice A7 ys7.length c7), blk_far HT7.out (by simp; omega) _, HY7.out, (HN3.out.far HG7.out (fun k e => Nat.le_trans (Nat.le_trans hgw0 (Nat.le_of_lt hgl)) (own_ge HO3.out k e)) (fun e => by have := own_ge HO3.out g e.symm; omega)).far HS7.out (fun k e => by injection e with e; omega) (by simp; omega), grown_then (grown_then HG3.out HG7.out (fun k e => .inl (own_ge HO3.out k e))) HS7.out (fun k e => .inl (by injection e with e; omega))⟩
    · have hd : decide ((k : Int) < n) = false := decide_eq_false hlt
      have hkn : k = n.toNat := by omega
      subst hkn
      have hmx : (max n 0 < n) = False := eq_false (by omega)
      have hp := HP.out
      generalize (piecesR q5 n.toNat).1.length = m at HO hp ⊢
      have HR9 := Lib.hid hp
      have HT9 := HT
      have HN9 := HN
      have HG9 := HG
      have HO9 := Lib.hid (Kd.R_mono (ok' := fun k => some k ≠ (Value.slice none 0 0).ownBlock) HO.out (fun k _ => by simp [Value.ownBlock]))
      clear hp HP HT HN HG HO
      have hp := HR9.out
      have ht := HT9.out
      have hq := put10_blk wr w.heap.size _ _ _ _ _ _ _ _ _ _ _ (.int .i64 a) (.int .i64 b) (.int .i64 0) (.slice none 0 0) (.int .i64 2) (.int .i64 0) (.int .i64 x1) (.int .i64 x2) (.int .i64 0) (.slice Av m cv) ht
      have p0 := blk_cell hp 0
      have p1 := blk_cell hp 1
      have p2 := blk_cell hp 2
      have p3 := blk_cell hp 3
      have p4 := blk_cell hp 4
      have p5 := blk_cell hp 5
      have p6 := blk_cell hp 6
      have p7 := blk_cell hp 7
      have p8 := blk_cell hp 8
      have p9 := blk_cell hp 9
      have t0 := blk_cell ht 0
      have f0 := blk_frozen ht 0
      have t1 := blk_cell ht 1
      have f1 := blk_frozen ht 1
      have t2 := blk_cell ht 2
      have f2 := blk_frozen ht 2
      have t3 := blk_cell ht 3
      have f3 := blk_frozen ht 3
      have t4 := blk_cell ht 4
      have f4 := blk_frozen ht 4
      have t5 := blk_cell ht 5
      have f5 := blk_frozen ht 5
      have t6 := blk_cell ht 6
      have f6 := blk_frozen ht 6
      have t7 := blk_cell ht 7
      have f7 := blk_frozen ht 7
      have t8 := blk_cell ht 8
      have f8 := blk_frozen ht 8
      have t9 := blk_cell ht 9
      have f9 := blk_frozen ht 9
      have r0 := blk_cell hq.1 0
      have r1 := blk_cell hq.1 1
      have r2 := blk_cell hq.1 2
      have r3 := blk_cell hq.1 3
      have r4 := blk_cell hq.1 4
      have r5 := blk_cell hq.1 5
      have r6 := blk_cell hq.1 6
      have r7 := blk_cell hq.1 7
      have r8 := blk_cell hq.1 8
      have r9 := blk_cell hq.1 9
      simp at p0 t0 r0
      simp at p1 t1 r1
      simp at p2 t2 r2
      simp at p3 t3 r3
      simp at p4 t4 r4
      simp at p5 t5 r5
      simp at p6 t6 r6
      simp at p7 t7 r7
      simp at p8 t8 r8
      simp at p9 t9 r9
      have HQ := Lib.hid hq.2
      have HTT := Lib.hid ht
      clear hp ht hq
      go_wp2
      exact bodyPost_ret (v := .agg #[.int .i64 a, .int .i64 b, .int .i64 0, .slice none 0 0, .int .i64 2, .int .i64 0, .int .i64 x1, .int .i64 x2, .int .i64 0, .slice Av m cv]) (by simp [results, Try.results53, go_sem, r0, r1, r2, r3, r4, r5, r6, r7, r8, r9]) rfl ⟨_, _, rfl, keepR (Kd.R_nil _ _ _ _ _) HTT.out HQ.out (by decide), keepR (HO9.out) HTT.out HQ.out (by decide), HN9.out.far HQ.out (fun k e => by injection e with e; omega) (by simp; omega), grown_then HG9.out HQ.out (fun k e => .inl (by injection e with e; omega))⟩
theorem reply_is (w0 w : World) (g : Nat) (q : List Int × Bool) (h : Ns w0 w g q.1 q.2) :
    Calls Try.prog 53 #[.pointer (some ⟨g, 0, none⟩)] w fun e w' => ReplyPost w0 w g (replyR q) e w' := by
  unfold replyR
  by_cases h1 : nextF q.1 = 1
  · rw [h1]; exact reply_1 w0 w g q h h1
  by_cases h2 : nextF q.1 = 2
  · rw [h2]; exact reply_2 w0 w g q h h2
  by_cases h3 : nextF q.1 = 3
  · rw [h3]; exact reply_3 w0 w g q h h3
  by_cases h5 : nextF q.1 = 5
  · rw [h5]; exact reply_5 w0 w g q h h5
  exact reply_0 w0 w g q _ h rfl (by simpa using h1) (by simpa using h2) (by simpa using h3) (by simpa using h5)
end Go.Proofs.Yteikgpdjfhdneaa.Man
