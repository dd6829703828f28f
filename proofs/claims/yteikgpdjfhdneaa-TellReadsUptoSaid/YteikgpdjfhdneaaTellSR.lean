/- TellSR: texts of this seat laid together by merge.py: TellSP, TellSQ. -/
import Derived.Test.YteikgpdjfhdneaaTellFX
set_option linter.unusedVariables false
set_option linter.unusedSimpArgs false
namespace Go.Proofs.Yteikgpdjfhdneaa.Man
open Go.RowKit Go.Proofs.Yteikgpdjfhdneaa.QT Go.Proofs.YteikgpdjfhdneaaW.PrintWords Go.Proofs.YteikgpdjfhdneaaW.PrintLast Go.Proofs.YteikgpdjfhdneaaW.PrintMore
structure Sp (P : Nat → Prop) (W W' : World) : Prop where
  os : W'.os = W.os
  tape : W'.tape = W.tape
  output : W'.output = W.output
  size : W'.heap.size = W.heap.size
  out : ∀ b, ¬ P b → W'.heap[b]? = W.heap[b]?
  kept : ∀ (b : Nat) (cs : Array Value) (t : TypeId), W.heap[b]? = some (.cells cs t (0, 0)) → ∃ cs' : Array Value, W'.heap[b]? = some (.cells cs' t (0, 0)) ∧ cs'.size = cs.size ∧ ∀ j : Nat, cs'[j]? = cs[j]? ∨ ((∃ x : Int, cs[j]? = some (.int .i64 x)) ∧ ∃ y : Int, cs'[j]? = some (.int .i64 y))
theorem Sp.refl (P : Nat → Prop) (W : World) : Sp P W W := ⟨rfl, rfl, rfl, rfl, fun _ _ => rfl, fun b cs t h => ⟨cs, h, rfl, fun _ => .inl rfl⟩⟩
theorem Sp.trans {P : Nat → Prop} {a b c : World} (h : Sp P a b) (g : Sp P b c) : Sp P a c := by
  refine ⟨g.os.trans h.os, g.tape.trans h.tape, g.output.trans h.output, g.size.trans h.size, fun k hk => (g.out k hk).trans (h.out k hk), fun k cs t hk => ?_⟩
  obtain ⟨c1, h1, s1, e1⟩ := h.kept k cs t hk
  obtain ⟨c2, h2, s2, e2⟩ := g.kept k c1 t h1
  refine ⟨c2, h2, s2.trans s1, fun j => ?_⟩
  rcases e1 j with e | ⟨hx, y, hy⟩
  · rcases e2 j with e' | ⟨hx', hy'⟩
    · exact .inl (e'.trans e)
    · exact .inr ⟨by rw [← e]; exact hx', hy'⟩
  · rcases e2 j with e' | ⟨_, hy'⟩
    · exact .inr ⟨hx, y, e'.trans hy⟩
    · exact .inr ⟨hx, hy'⟩
theorem Sp.set {P : Nat → Prop} {w : World} {g i : Nat} {cs : Array Value} {t : TypeId} {x y : Int} (h : w.heap[g]? = some (.cells cs t (0, 0))) (hx : cs[i]? = some (.int .i64 x)) (hP : P g) : Sp P w (w.setCell ⟨g, i, none⟩ (.int .i64 y)) := by
  have hg := Lib.grownBy_setCell w g i (.int .i64 y)
  refine ⟨hg.os, hg.tape, hg.output, by simp, fun b hb => Below.heap_setCell w ⟨g, i, none⟩ _ b (fun e => hb (by rw [e]; exact hP)), fun b cs' t' hb => ?_⟩
  by_cases e : b = g
  · subst e
    rw [h] at hb
    injection hb with hb
    injection hb with h1 h2 h3
    subst h1
    subst h2
    refine ⟨_, blk_set h i (.int .i64 y), by simp, fun j => ?_⟩
    by_cases hj : j = i
    · subst hj
      have hl : j < cs.size := (Array.getElem?_eq_some_iff.1 hx).1
      exact .inr ⟨⟨x, hx⟩, y, by simp [hl]⟩
    · exact .inl (by rw [Array.getElem?_setIfInBounds_ne (by omega)])
  · exact ⟨cs', (Below.heap_setCell w ⟨g, i, none⟩ _ b e).trans hb, rfl, fun _ => .inl rfl⟩
def IntRow (W : World) (P : Nat → Prop) (A : Option Addr) (n : Nat) : Prop := n = 0 ∨ ∃ (g : Nat) (cs : Array Value), A = some ⟨g, 0, none⟩ ∧ P g ∧ W.heap[g]? = some (.cells cs 3 (0, 0)) ∧ ∀ j, j < n → ∃ x : Int, cs[j]? = some (.int .i64 x)
def PathRow (W : World) (P : Nat → Prop) (A : Option Addr) (n : Nat) : Prop := n = 0 ∨ ∃ (g : Nat) (cs : Array Value), A = some ⟨g, 0, none⟩ ∧ P g ∧ W.heap[g]? = some (.cells cs 78 (0, 0)) ∧ ∀ j, j < n → (∃ x : Int, cs[j * 2]? = some (.int .i64 x)) ∧ ∃ (A' : Option Addr) (n' c' : Nat), cs[j * 2 + 1]? = some (.slice A' n' c') ∧ n' ≤ 1099511627776 ∧ IntRow W P A' n'
def PieceRow (W : World) (P : Nat → Prop) (A : Option Addr) (n : Nat) : Prop := n = 0 ∨ ∃ (g : Nat) (cs : Array Value), A = some ⟨g, 0, none⟩ ∧ P g ∧ W.heap[g]? = some (.cells cs 76 (0, 0)) ∧ ∀ j, j < n → (∃ x : Int, cs[j * 3]? = some (.int .i64 x)) ∧ (∃ x : Int, cs[j * 3 + 1]? = some (.int .i64 x)) ∧ ∃ (A' : Option Addr) (n' c' : Nat), cs[j * 3 + 2]? = some (.slice A' n' c') ∧ n' ≤ 1099511627776 ∧ PathRow W P A' n'
theorem int_kept {cs cs' : Array Value} {j : Nat} (h : cs'[j]? = cs[j]? ∨ ((∃ x : Int, cs[j]? = some (.int .i64 x)) ∧ ∃ y : Int, cs'[j]? = some (.int .i64 y))) (hx : ∃ x : Int, cs[j]? = some (.int .i64 x)) : ∃ x : Int, cs'[j]? = some (.int .i64 x) := by
  rcases h with e | ⟨_, hy⟩
  · rw [e]; exact hx
  · exact hy
theorem slice_kept {cs cs' : Array Value} {j : Nat} {A : Option Addr} {n c : Nat} (h : cs'[j]? = cs[j]? ∨ ((∃ x : Int, cs[j]? = some (.int .i64 x)) ∧ ∃ y : Int, cs'[j]? = some (.int .i64 y))) (hx : cs[j]? = some (.slice A n c)) : cs'[j]? = some (.slice A n c) := by
  rcases h with e | ⟨⟨x, hi⟩, _⟩
  · rw [e]; exact hx
  · rw [hx] at hi; cases hi
theorem IntRow.sp {W W' : World} {P : Nat → Prop} {A : Option Addr} {n : Nat} (h : IntRow W P A n) (s : Sp P W W') : IntRow W' P A n := by
  rcases h with h | ⟨g, cs, e, hP, hb, hj⟩
  · exact .inl h
  · obtain ⟨cs', hb', _, hk⟩ := s.kept g cs _ hb
    exact .inr ⟨g, cs', e, hP, hb', fun j hl => int_kept (hk j) (hj j hl)⟩
theorem PathRow.sp {W W' : World} {P : Nat → Prop} {A : Option Addr} {n : Nat} (h : PathRow W P A n) (s : Sp P W W') : PathRow W' P A n := by
  rcases h with h | ⟨g, cs, e, hP, hb, hj⟩
  · exact .inl h
  · obtain ⟨cs', hb', _, hk⟩ := s.kept g cs _ hb
    refine .inr ⟨g, cs', e, hP, hb', fun j hl => ?_⟩
    obtain ⟨h1, A', n', c', h2, h3, h4⟩ := hj j hl
    exact ⟨int_kept (hk _) h1, A', n', c', slice_kept (hk _) h2, h3, h4.sp s⟩
theorem PieceRow.sp {W W' : World} {P : Nat → Prop} {A : Option Addr} {n : Nat} (h : PieceRow W P A n) (s : Sp P W W') : PieceRow W' P A n := by
  rcases h with h | ⟨g, cs, e, hP, hb, hj⟩
  · exact .inl h
  · obtain ⟨cs', hb', _, hk⟩ := s.kept g cs _ hb
    refine .inr ⟨g, cs', e, hP, hb', fun j hl => ?_⟩
    obtain ⟨h1, h1', A', n', c', h2, h3, h4⟩ := hj j hl
    exact ⟨int_kept (hk _) h1, int_kept (hk _) h1', A', n', c', slice_kept (hk _) h2, h3, h4.sp s⟩
set_option maxHeartbeats 4000000 in
set_option maxRecDepth 100000 in
theorem spoilInts_is (P : Nat → Prop) (A : Option Addr) (n c : Nat) (W : World) (hn : n ≤ 1099511627776) (h : IntRow W P A n) :
    Calls Try.prog 55 #[.slice A n c] W fun e W' => e = .returned (.tuple #[]) ∧ Sp P W W' := by
  have HI := Lib.hid h
  clear h
  go_enter Try.func55, Try.ntmps55
  go_wp2_with fail
  go_loopw [2] (fun i w' => ∃ k : Nat, i = .int .i64 (k : Int) ∧ k ≤ n ∧ Sp P W w') (fun i _ => n - (intOf i).toNat)
  case atStart => exact ⟨0, rfl, Nat.zero_le _, Sp.refl _ _⟩
  case round =>
    obtain ⟨k, rfl, hk, hs⟩ := hrel
    have HS := Lib.hid hs
    clear hs
    by_cases hlt : (k : Int) < (n : Int)
    · have hd : decide ((k : Int) < (n : Int)) = true := decide_eq_true hlt
      rcases HI.out.sp HS.out with hz | ⟨g, cs, rfl, hP, hb, hj⟩
      · omega
      obtain ⟨x, hx⟩ := hj k (by omega)
      have e1 := blk_cell hb k
      have f1 := blk_frozen hb k
      rw [hx] at e1
      have HB := Lib.hid hb
      have HJ := Lib.hid hx
      clear hb hj hx
      go_wp2_with fail
      go_roundw
      case rel => exact ⟨k + 1, by go_num, by omega, HS.out.trans (Sp.set HB.out HJ.out hP)⟩
      case measure => simp [intOf]; omega
    · have hd : decide ((k : Int) < (n : Int)) = false := decide_eq_false hlt
      go_wp2_with fail
      go_end0
      exact ⟨rfl, HS.out⟩
set_option maxHeartbeats 4000000 in
set_option maxRecDepth 100000 in
theorem spoilPaths_is (P : Nat → Prop) (A : Option Addr) (n c : Nat) (W : World) (hn : n ≤ 1099511627776) (h : PathRow W P A n) :
    Calls Try.prog 80 #[.slice A n c] W fun e W' => e = .returned (.tuple #[]) ∧ Sp P W W' := by
  have HI := Lib.hid h
  clear h
  go_enter Try.func80, Try.ntmps80
  go_wp2_with fail
  go_loopw [2] (fun i w' => ∃ k : Nat, i = .int .i64 (k : Int) ∧ k ≤ n ∧ Sp P W w') (fun i _ => n - (intOf i).toNat)
  case atStart => exact ⟨0, rfl, Nat.zero_le _, Sp.refl _ _⟩
  case round =>
    obtain ⟨k, rfl, hk, hs⟩ := hrel
    have HS := Lib.hid hs
    clear hs
    by_cases hlt : (k : Int) < (n : Int)
    · have hd : decide ((k : Int) < (n : Int)) = true := decide_eq_true hlt
      rcases HI.out.sp HS.out with hz | ⟨g, cs, rfl, hP, hb, hj⟩
      · omega
      obtain ⟨hx, A', n', c', hA', hn', hr⟩ := hj k (by omega)
      have e1 := blk_cell hb (k * 2 + 1)
      rw [hA'] at e1
      have HB := Lib.hid hb
      have HX := Lib.hid hx
      have HC := Lib.hid (spoilInts_is P A' n' c' wr hn' hr)
      clear hb hj hA' hr hx
      go_wp2_with fail
      refine HC.out.mono ?_
      rintro e w3 ⟨rfl, hs3⟩
      obtain ⟨cs3, hb3, _, hk3⟩ := hs3.kept g cs _ HB.out
      obtain ⟨y, hy⟩ := int_kept (hk3 (k * 2)) HX.out
      have HS3 := Lib.hid (HS.out.trans hs3)
      have e3 := blk_cell hb3 (k * 2)
      have f3 := blk_frozen hb3 (k * 2)
      rw [hy] at e3
      have HB3 := Lib.hid hb3
      have HY := Lib.hid hy
      clear hs3 hb3 hk3 hy e1 HC
      go_wp2_with fail
      go_roundw
      case rel => exact ⟨k + 1, by go_num, by omega, HS3.out.trans (Sp.set HB3.out HY.out hP)⟩
      case measure => simp [intOf]; omega
    · have hd : decide ((k : Int) < (n : Int)) = false := decide_eq_false hlt
      go_wp2_with fail
      go_end0
      exact ⟨rfl, HS.out⟩
set_option maxHeartbeats 4000000 in
set_option maxRecDepth 100000 in
theorem spoilPieces_is (P : Nat → Prop) (A : Option Addr) (n c : Nat) (W : World) (hn : n ≤ 1099511627776) (h : PieceRow W P A n) :
    Calls Try.prog 56 #[.slice A n c] W fun e W' => e = .returned (.tuple #[]) ∧ Sp P W W' := by
  have HI := Lib.hid h
  clear h
  go_enter Try.func56, Try.ntmps56
  go_wp2_with fail
  go_loopw [2] (fun i w' => ∃ k : Nat, i = .int .i64 (k : Int) ∧ k ≤ n ∧ Sp P W w') (fun i _ => n - (intOf i).toNat)
  case atStart => exact ⟨0, rfl, Nat.zero_le _, Sp.refl _ _⟩
  case round =>
    obtain ⟨k, rfl, hk, hs⟩ := hrel
    have HS := Lib.hid hs
    clear hs
    by_cases hlt : (k : Int) < (n : Int)
    · have hd : decide ((k : Int) < (n : Int)) = true := decide_eq_true hlt
      rcases HI.out.sp HS.out with hz | ⟨g, cs, rfl, hP, hb, hj⟩
      · omega
      obtain ⟨hx, hx', A', n', c', hA', hn', hr⟩ := hj k (by omega)
      have e1 := blk_cell hb (k * 3 + 2)
      rw [hA'] at e1
      have HB := Lib.hid hb
      have HX := Lib.hid hx
      have HX' := Lib.hid hx'
      have HC := Lib.hid (spoilPaths_is P A' n' c' wr hn' hr)
      clear hb hj hA' hr hx hx'
      go_wp2_with fail
      refine HC.out.mono ?_
      rintro e w3 ⟨rfl, hs3⟩
      obtain ⟨cs3, hb3, _, hk3⟩ := hs3.kept g cs _ HB.out
      obtain ⟨y, hy⟩ := int_kept (hk3 (k * 3)) HX.out
      obtain ⟨z, hz⟩ := int_kept (hk3 (k * 3 + 1)) HX'.out
      have HS3 := Lib.hid (HS.out.trans hs3)
      have e3 := blk_cell hb3 (k * 3)
      have f3 := blk_frozen hb3 (k * 3)
      have e4 := blk_cell hb3 (k * 3 + 1)
      have f4 := blk_frozen hb3 (k * 3 + 1)
      rw [hy] at e3
      rw [hz] at e4
      have HB3 := Lib.hid hb3
      have HY := Lib.hid hy
      have HZ := Lib.hid hz
      clear hs3 hb3 hk3 hy hz e1 HC
      go_wp2_with fail
      go_roundw
      case rel =>
        refine ⟨k + 1, by go_num, by omega, ?_⟩
        have h1 := Sp.set (y := -3) HB3.out HY.out hP
        have hb4 := blk_set HB3.out (k * 3) (.int .i64 (-3))
        have hz4 : (cs3.setIfInBounds (k * 3) (.int .i64 (-3)))[k * 3 + 1]? = some (.int .i64 z) := by rw [Array.getElem?_setIfInBounds_ne (by omega)]; exact HZ.out
        exact HS3.out.trans (h1.trans (Sp.set hb4 hz4 hP))
      case measure => simp [intOf]; omega
    · have hd : decide ((k : Int) < (n : Int)) = false := decide_eq_false hlt
      go_wp2_with fail
      go_end0
      exact ⟨rfl, HS.out⟩
end Go.Proofs.Yteikgpdjfhdneaa.Man
namespace Go.Proofs.Yteikgpdjfhdneaa.Man
open Go.RowKit Go.Proofs.Yteikgpdjfhdneaa.QT Go.Proofs.YteikgpdjfhdneaaW.PrintWords Go.Proofs.YteikgpdjfhdneaaW.PrintLast Go.Proofs.YteikgpdjfhdneaaW.PrintMore
theorem row_cells {α : Type} {d : Kd α} {e base : Nat} {W : World} {ok : Nat → Prop} {v : Value} {xs : List α} (h : d.R e W base ok v xs) :
    (v = .slice none 0 0 ∧ xs.length = 0) ∨ ∃ (g cap : Nat) (cs : Array Value), v = .slice (some ⟨g, 0, none⟩) xs.length cap ∧ base ≤ g ∧ W.heap[g]? = some (.cells cs e (0, 0)) ∧ ∀ (j : Nat) (hj : j < xs.length), ∃ c : List Value, d.M W base (fun k => ok k ∧ some k ≠ v.ownBlock) xs[j] c ∧ ∀ (i : Nat) (u : Value), c[i]? = some u → cs[j * d.sz + i]? = some u := by
  obtain ⟨h0, inner, ho, hr⟩ := h
  rcases ho.2 with ⟨e1, e2⟩ | ⟨g, cap, cur, e1, hbs, hg, h1, h2, hsz, htk⟩
  · exact .inl ⟨e1, e2⟩
  · refine .inr ⟨g, cap, cur, e1, hbs, hg, fun j hj => ⟨_, hr.2 j xs[j] (by rw [List.getElem?_eq_getElem hj]), fun i u hu => ?_⟩⟩
    rw [List.getElem?_take] at hu
    split at hu
    · rw [List.getElem?_drop] at hu
      rw [← htk, List.getElem?_take] at hu
      split at hu
      · simpa using hu
      · cases hu
    · cases hu
theorem introw_of {W : World} {base : Nat} {ok : Nat → Prop} {v : Value} {xs : List Int} {P : Nat → Prop} (hP : ∀ g, base ≤ g → g < W.heap.size → P g) (h : Kd.R (Kd.int .i64) 3 W base ok v xs) : ∃ A c, v = .slice A xs.length c ∧ IntRow W P A xs.length := by
  rcases row_cells h with ⟨e, hl⟩ | ⟨g, cap, cs, e, hb, hg, hj⟩
  · exact ⟨none, 0, by rw [e, hl], .inl hl⟩
  · refine ⟨_, cap, e, .inr ⟨g, cs, rfl, hP g hb (blk_lt hg), hg, fun j hl => ?_⟩⟩
    obtain ⟨c, hM, hc⟩ := hj j hl
    have hM : c = [.int .i64 xs[j]] := hM
    have := hc 0 (.int .i64 xs[j]) (by rw [hM]; rfl)
    exact ⟨xs[j], by simpa [Kd.int, Kd.scalar] using this⟩
theorem pathrow_of {W : World} {base : Nat} {ok : Nat → Prop} {v : Value} {xs : List Pth} {P : Nat → Prop} (hP : ∀ g, base ≤ g → g < W.heap.size → P g) (hl : ∀ p ∈ xs, p.f1.length ≤ 1099511627776) (h : Kd.R k78 78 W base ok v xs) : ∃ A c, v = .slice A xs.length c ∧ PathRow W P A xs.length := by
  rcases row_cells h with ⟨e, hz⟩ | ⟨g, cap, cs, e, hb, hg, hj⟩
  · exact ⟨none, 0, by rw [e, hz], .inl hz⟩
  · refine ⟨_, cap, e, .inr ⟨g, cs, rfl, hP g hb (blk_lt hg), hg, fun j hlt => ?_⟩⟩
    obtain ⟨c, hM, hc⟩ := hj j hlt
    obtain ⟨v1, rfl, hR⟩ := k78_openM hM
    obtain ⟨A', c', e', hI⟩ := introw_of hP hR
    exact ⟨⟨_, hc 0 _ rfl⟩, A', _, c', by rw [← e']; exact hc 1 _ rfl, hl _ (List.getElem_mem hlt), hI⟩
theorem piecerow_of {W : World} {base : Nat} {ok : Nat → Prop} {v : Value} {xs : List Pce} {P : Nat → Prop} (hP : ∀ g, base ≤ g → g < W.heap.size → P g) (hl : ∀ p ∈ xs, p.f1.length ≤ 1099511627776 ∧ ∀ q ∈ p.f1, q.f1.length ≤ 1099511627776) (h : Kd.R k76 76 W base ok v xs) : ∃ A c, v = .slice A xs.length c ∧ PieceRow W P A xs.length := by
  rcases row_cells h with ⟨e, hz⟩ | ⟨g, cap, cs, e, hb, hg, hj⟩
  · exact ⟨none, 0, by rw [e, hz], .inl hz⟩
  · refine ⟨_, cap, e, .inr ⟨g, cs, rfl, hP g hb (blk_lt hg), hg, fun j hlt => ?_⟩⟩
    obtain ⟨c, hM, hc⟩ := hj j hlt
    obtain ⟨v1, rfl, hR⟩ := k76_openM hM
    have hm := hl _ (List.getElem_mem hlt)
    obtain ⟨A', c', e', hI⟩ := pathrow_of hP hm.2 hR
    exact ⟨⟨_, hc 0 _ rfl⟩, ⟨_, hc 1 _ rfl⟩, A', _, c', by rw [← e']; exact hc 2 _ rfl, hm.1, hI⟩
theorem IntRow.below {W W1 : World} {P : Nat → Prop} {A : Option Addr} {n : Nat} (h : IntRow W P A n) (hb : Below W.heap.size W W1) : IntRow W1 P A n := by
  rcases h with h | ⟨g, cs, e, hP, hg, hj⟩
  · exact .inl h
  · exact .inr ⟨g, cs, e, hP, blk_below hg hb, hj⟩
theorem PathRow.below {W W1 : World} {P : Nat → Prop} {A : Option Addr} {n : Nat} (h : PathRow W P A n) (hb : Below W.heap.size W W1) : PathRow W1 P A n := by
  rcases h with h | ⟨g, cs, e, hP, hg, hj⟩
  · exact .inl h
  · refine .inr ⟨g, cs, e, hP, blk_below hg hb, fun j hl => ?_⟩
    obtain ⟨h1, A', n', c', h2, h3, h4⟩ := hj j hl
    exact ⟨h1, A', n', c', h2, h3, h4.below hb⟩
theorem PieceRow.below {W W1 : World} {P : Nat → Prop} {A : Option Addr} {n : Nat} (h : PieceRow W P A n) (hb : Below W.heap.size W W1) : PieceRow W1 P A n := by
  rcases h with h | ⟨g, cs, e, hP, hg, hj⟩
  · exact .inl h
  · refine .inr ⟨g, cs, e, hP, blk_below hg hb, fun j hl => ?_⟩
    obtain ⟨h1, h1', A', n', c', h2, h3, h4⟩ := hj j hl
    exact ⟨h1, h1', A', n', c', h2, h3, h4.below hb⟩
set_option maxHeartbeats 4000000 in
set_option maxRecDepth 100000 in
theorem spoilReply_is (P : Nat → Prop) (c0 c1 c2 d4 d5 d6 d7 d8 : Int) (A3 : Option Addr) (n3 c3 : Nat) (A9 : Option Addr) (n9 c9 : Nat) (W : World) (hP : ∀ g, P g → g < W.heap.size) (hn3 : n3 ≤ 1099511627776) (hn9 : n9 ≤ 1099511627776) (h3 : IntRow W P A3 n3) (h9 : PieceRow W P A9 n9) :
    Calls Try.prog 32 #[.agg #[.int .i64 c0, .int .i64 c1, .int .i64 c2, .slice A3 n3 c3, .int .i64 d4, .int .i64 d5, .int .i64 d6, .int .i64 d7, .int .i64 d8, .slice A9 n9 c9]] W fun e W' => e = .returned (.tuple #[]) ∧ ∃ W1, Below W.heap.size W W1 ∧ Sp P W1 W' := by
  have HB := Lib.hid ((Below.refl W.heap.size W).alloc (Nat.le_refl _) (.cells #[.int .i64 c0, .int .i64 c1, .int .i64 c2, .slice A3 n3 c3, .int .i64 d4, .int .i64 d5, .int .i64 d6, .int .i64 d7, .int .i64 d8, .slice A9 n9 c9] 48 (0, 0)))
  have H3 := Lib.hid (spoilInts_is P A3 n3 c3 _ hn3 (h3.below HB.out))
  have H9 := Lib.hid (h9.below HB.out)
  have HX := Lib.hid (blk_new W (.cells #[.int .i64 c0, .int .i64 c1, .int .i64 c2, .slice A3 n3 c3, .int .i64 d4, .int .i64 d5, .int .i64 d6, .int .i64 d7, .int .i64 d8, .slice A9 n9 c9] 48 (0, 0)))
  have HP := Lib.hid hP
  clear h3 h9 hP
  go_enter Try.func32, Try.ntmps32
  go_wp2_with fail
  refine H3.out.mono ?_
  rintro e w2 ⟨rfl, hs2⟩
  have hx2 := (hs2.out W.heap.size (fun h => Nat.lt_irrefl _ (HP.out _ h))).trans HX.out
  have e9 := blk_cell hx2 9
  simp at e9
  have HS2 := Lib.hid hs2
  have HC := Lib.hid (spoilPieces_is P A9 n9 c9 w2 hn9 (H9.out.sp hs2))
  clear hs2 hx2 H3 H9 HX
  go_wp2_with fail
  refine HC.out.mono ?_
  rintro e w3 ⟨rfl, hs3⟩
  have HS3 := Lib.hid (HS2.out.trans hs3)
  clear hs3 e9 HC HS2
  go_wp2_with fail
  go_end0
  exact ⟨rfl, _, HB.out, HS3.out⟩
end Go.Proofs.Yteikgpdjfhdneaa.Man
