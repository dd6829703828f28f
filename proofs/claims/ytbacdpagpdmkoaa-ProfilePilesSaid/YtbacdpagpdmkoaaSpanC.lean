/- span.May, Has, Both, Meets, Cover: what they answer, in plain words, and that the calls answer so. -/
import Derived.Test.YtbacdpagpdmkoaaQT1
import Derived.Lib.Hide
import Derived.Outline
set_option linter.unusedVariables false
namespace Go.Proofs.Ytbacdpagpdmkoaa.Man
open Go.RowKit Go.Proofs.Ytbacdpagpdmkoaa.QT Go.Proofs.YtbacdpagpdmkoaaW.PrintWords Go.Proofs.YtbacdpagpdmkoaaW.PrintLast Go.Proofs.YtbacdpagpdmkoaaW.PrintMore
attribute [local go_sem] max2_int min2_int max_two min_two max_three min_three max_four min_four

def mayF (a b : Int) : Bool := decide (0 ≤ a) && decide (a < b) && decide (b ≤ 4096)
theorem mayF_true {a b : Int} : mayF a b = true ↔ 0 ≤ a ∧ a < b ∧ b ≤ 4096 := by simp [mayF, and_assoc]
theorem mayF_false {a b : Int} : mayF a b = false ↔ ¬ (0 ≤ a ∧ a < b ∧ b ≤ 4096) := by rw [← Bool.not_eq_true, mayF_true]

def span_May.f (a b : Int) : Option Bool := some (mayF a b)
set_option maxHeartbeats 4000000 in
set_option maxRecDepth 100000 in
theorem may_is (a b : Int) (w : World) : Calls Try.prog 17 #[.agg #[.int .i64 a, .int .i64 b]] w fun e w' => e = .returned (.bool (mayF a b)) ∧ Below w.heap.size w w' := by
  unfold mayF
  cases h0 : decide (0 ≤ a)
  · go_enter Try.func17, Try.ntmps17
    go_wp2
    go_ret
    exact ⟨rfl, (Below.refl _ _).alloc (Nat.le_refl _) _⟩
  cases h1 : decide (a < b)
  all_goals
    go_enter Try.func17, Try.ntmps17
    go_wp2
    go_ret
    exact ⟨by first | rfl | simp, (Below.refl _ _).alloc (Nat.le_refl _) _⟩
theorem span_May.calls (a0_0 : Int) (a0_1 : Int) (r : Bool) (w : World) (h : span_May.f a0_0 a0_1 = some r) :
    Calls Try.prog 17 #[.agg #[.int .i64 a0_0, .int .i64 a0_1]] w fun e w' => e = .returned (.bool r) ∧ Below w.heap.size w w' := by
  cases h
  exact may_is a0_0 a0_1 w

/-! ### Cover -/
theorem not_may (s : S23) (w : World) : Calls Try.prog 49 #[.agg #[.int .i64 s.f0, .int .i64 s.f1]] w fun e w' => e = .returned (.bool (!mayF s.f0 s.f1)) ∧ Below w.heap.size w w' := by
  obtain ⟨x, hx0⟩ : ∃ x, mayF s.f0 s.f1 = x := ⟨_, rfl⟩
  have hx := Lib.hid hx0
  rw [hx0]
  clear hx0
  go_enter Try.func49, Try.ntmps49
  go_wp2_with fail
  refine (may_is _ _ _).mono ?_
  rintro e w' ⟨rfl, hb⟩
  rw [hx.out]
  have HB := Lib.hid hb
  clear hb
  go_wp2
  go_ret
  exact ⟨rfl, below_then ((Below.refl w.heap.size w).alloc (Nat.le_refl _) _) (by simp) HB.out⟩

def okAll (ss : List S23) : Bool := ss.all fun s => mayF s.f0 s.f1
def SomeBad (ss : List S23) (w : World) (e : Ending) (w' : World) : Prop := (∃ n : Int, e = .returned (.int .i64 n) ∧ (decide (n ≥ 0) = !okAll ss)) ∧ Below w.heap.size w w'
def BadAt (w : World) (ss : List S23) (i : Value) (w' : World) : Prop := ∃ k : Nat, i = .int .i64 (k : Int) ∧ k ≤ ss.length ∧ okAll (ss.take k) = true ∧ Below w.heap.size w w'
theorem rdT_at (ss : List S23) (k : Nat) (h : k < ss.length) : rd_T23 ss (k : Int) = ss[k] := by simp [rd_T23, List.getD_eq_getElem?_getD, h]
theorem okAll_snoc (ss : List S23) (k : Nat) (h : k < ss.length) : okAll (ss.take (k + 1)) = (okAll (ss.take k) && mayF ss[k].f0 ss[k].f1) := by
  unfold okAll
  rw [List.take_succ_eq_append_getElem h, List.all_append, List.all_cons, List.all_nil, Bool.and_true]
theorem okAll_not (ss : List S23) (k : Nat) (h : k < ss.length) (hb : mayF ss[k].f0 ss[k].f1 = false) : okAll ss = false := by
  unfold okAll
  rw [List.all_eq_false]
  exact ⟨ss[k], List.getElem_mem h, by simp [hb]⟩

set_option maxHeartbeats 4000000 in
set_option maxRecDepth 100000 in
theorem index_bad (A : Option Addr) (c : Nat) (ss : List S23) (w : World) (hr : Kd.C k23 w A ss.length ss) (hc : ss.length ≤ c) (hl : ss.length ≤ 281474976710656) :
    Calls Try.prog 71 #[.slice A ss.length c, .func (.func 49) #[] #[]] w (SomeBad ss w) := by
  have HR := Lib.hid hr
  clear hr
  go_enter Try.func71, Try.ntmps71
  go_wp2_with fail
  go_loopw [8] (BadAt w ss) (fun i _ => ss.length - (intOf i).toNat)
  case atStart => exact ⟨0, rfl, Nat.zero_le _, rfl, Below.refl _ _⟩
  case round =>
    obtain ⟨k, rfl, hk, hok, hb⟩ := hrel
    have HB := Lib.hid hb
    have HOK := Lib.hid hok
    clear hb hok
    by_cases hlt : k < ss.length
    · obtain ⟨ad, rfl, x0, x1⟩ := at_T23 (Kd.C_below HR.out HB.out) (k : Int) (by omega) (by omega)
      rw [rdT_at ss k hlt, Int.toNat_natCast] at x0 x1
      generalize hs : ss[k] = s at x0 x1
      have HS := Lib.hid hs
      clear hs
      have hd : decide ((k : Int) < (ss.length : Int)) = true := by simpa using hlt
      cases hm : mayF s.f0 s.f1
      · have HM := Lib.hid hm
        clear hm
        go_wp2_with fail
        refine (not_may s _).mono ?_
        rintro e w1 ⟨rfl, hb1⟩
        rw [HM.out]
        have HB1 := Lib.hid hb1
        clear hb1
        go_wp2
        go_ret
        refine ⟨⟨_, rfl, ?_⟩, below_then HB.out HB.out.size HB1.out⟩
        rw [okAll_not ss k hlt (by rw [HS.out]; exact HM.out)]
        simp
      · have HM := Lib.hid hm
        clear hm
        go_wp2_with fail
        refine (not_may s _).mono ?_
        rintro e w1 ⟨rfl, hb1⟩
        rw [HM.out]
        have HB1 := Lib.hid hb1
        clear hb1
        go_wp2
        go_roundw
        case rel => exact ⟨k + 1, by go_num, by omega, by rw [okAll_snoc ss k hlt, HOK.out, HS.out, HM.out]; rfl, below_then HB.out HB.out.size HB1.out⟩
        case measure => simp [intOf]; omega
    · have hd : decide ((k : Int) < (ss.length : Int)) = false := by simpa using hlt
      go_wp2
      go_ret
      refine ⟨⟨_, rfl, ?_⟩, HB.out⟩
      have : okAll ss = true := by
        have := HOK.out
        rwa [List.take_of_length_le (by omega)] at this
      rw [this]
      rfl
theorem row_le {α : Type} {d : Kd α} {w : World} {A : Option Addr} {n : Nat} {xs : List α} (h : d.C w A n xs) : n ≤ 9223372036854775807 := h.2.1
def HasBad (ss : List S23) (w : World) (e : Ending) (w' : World) : Prop := e = .returned (.bool (!okAll ss)) ∧ Below w.heap.size w w'
set_option maxHeartbeats 4000000 in
set_option maxRecDepth 100000 in
theorem contains_bad (A : Option Addr) (c : Nat) (ss : List S23) (w : World) (hr : Kd.C k23 w A ss.length ss) (hc : ss.length ≤ c) (hl : ss.length ≤ 281474976710656) :
    Calls Try.prog 48 #[.slice A ss.length c, .func (.func 49) #[] #[]] w (HasBad ss w) := by
  have HI := Lib.hid (index_bad A c ss w hr hc hl)
  clear hr hc hl
  go_enter Try.func48, Try.ntmps48
  go_wp2_with fail
  refine HI.out.mono ?_
  rintro e w1 ⟨⟨n, rfl, hn⟩, hb⟩
  have HN := Lib.hid hn
  have HB := Lib.hid hb
  clear hn hb
  go_wp2
  go_ret
  exact ⟨by rw [← HN.out]; rfl, HB.out⟩

/-- The least span over all. -/
def hullF (a b : Int) (ss : List S23) : Int × Int := ss.foldl (fun p s => (mn p.1 s.f0, mx p.2 s.f1)) (a, b)
def Covers (w : World) (g : Nat) (s : S23) (r : List S23) (i : Value) (w' : World) : Prop := ∃ k : Nat, i = .int .i64 (k : Int) ∧ k ≤ r.length ∧ Below w.heap.size w w' ∧ w.heap.size < g ∧
  w'.heap[w.heap.size]? = some (.cells #[.int .i64 0, .int .i64 0] 23 (0, 0)) ∧ w'.heap[g]? = some (.cells #[.int .i64 (hullF s.f0 s.f1 (r.take k)).1, .int .i64 (hullF s.f0 s.f1 (r.take k)).2] 23 (0, 0))
theorem hullF_snoc (a b : Int) (r : List S23) (k : Nat) (h : k < r.length) : hullF a b (r.take (k + 1)) = (mn (hullF a b (r.take k)).1 r[k].f0, mx (hullF a b (r.take k)).2 r[k].f1) := by
  unfold hullF
  rw [List.take_succ_eq_append_getElem h, List.foldl_append, List.foldl_cons, List.foldl_nil]

def coverF : List S23 → Int × Int × Int
  | [] => (0, 0, 200)
  | s :: r => if okAll (s :: r) = true then ((hullF s.f0 s.f1 r).1, (hullF s.f0 s.f1 r).2, 0) else (0, 0, 200)
def span_Cover.f (l0 : List S23) : Option (Int × Int × Int) := if l0.length ≤ 281474976710656 then some (coverF l0) else none

set_option maxHeartbeats 8000000 in
set_option maxRecDepth 100000 in
theorem cover_is (A : Option Addr) (c : Nat) (ss : List S23) (w : World) (hr : Kd.C k23 w A ss.length ss) (hc : ss.length ≤ c) (hl : ss.length ≤ 281474976710656) :
    Calls Try.prog 22 #[.slice A ss.length c] w fun e w' => e = .returned (.tuple #[.agg #[.int .i64 (coverF ss).1, .int .i64 (coverF ss).2.1], .int .i64 (coverF ss).2.2]) ∧ Below w.heap.size w w' := by
  rcases Nat.eq_zero_or_pos ss.length with hz | hp
  · obtain rfl : ss = [] := List.eq_nil_of_length_eq_zero hz
    clear hr
    go_enter Try.func22, Try.ntmps22
    go_wp2
    exact bodyPost_ret (v := .tuple #[.agg #[.int .i64 0, .int .i64 0], .int .i64 200]) (by simp [results, Try.results22, go_sem]) rfl ⟨rfl, (Below.refl _ _).alloc (Nat.le_refl _) _⟩
  obtain ⟨s, r, rfl⟩ : ∃ s r, ss = s :: r := by cases ss with | nil => cases hp | cons s r => exact ⟨s, r, rfl⟩
  have HR := Lib.hid hr
  clear hr hp
  have hd0 : ((((s :: r).length : Nat) : Int) == 0) = false := by simp; omega
  cases hok : okAll (s :: r)
  · have HOK := Lib.hid hok
    have HF : Hid (coverF (s :: r) = (0, 0, 200)) := Lib.hid (by show (if okAll (s :: r) = true then _ else _) = _; rw [if_neg (by rw [hok]; decide)])
    rw [HF.out]
    clear hok
    generalize s :: r = ss at *
    go_enter Try.func22, Try.ntmps22
    go_wp2_with fail
    refine (contains_bad A c ss _ (Kd.C_alloc HR.out _) hc hl).mono ?_
    rintro e w1 ⟨rfl, hb⟩
    have HB := Lib.hid (below_then ((Below.refl w.heap.size w).alloc (Nat.le_refl _) _) (by simp) hb)
    have hblk := blk_below (blk_new w (.cells #[.int .i64 0, .int .i64 0] 23 (0, 0))) hb
    have c0 := blk_cell hblk 0
    have c1 := blk_cell hblk 1
    have f0 := blk_frozen hblk 0
    have f1 := blk_frozen hblk 1
    rw [HOK.out]
    clear hb
    go_wp2
    have hb2 := blk_set (blk_set hblk 0 (.int .i64 0)) 1 (.int .i64 0)
    have q0 := blk_cell hb2 0
    have q1 := blk_cell hb2 1
    exact bodyPost_ret (v := .tuple #[.agg #[.int .i64 0, .int .i64 0], .int .i64 200]) (by simp [results, Try.results22, go_sem, q0, q1]) rfl ⟨rfl, (HB.out.setCell (p := ⟨w.heap.size, 0, none⟩) (Nat.le_refl _) _).setCell (p := ⟨w.heap.size, 1, none⟩) (Nat.le_refl _) _⟩
  have HOK := Lib.hid hok
  have HF : Hid (coverF (s :: r) = ((hullF s.f0 s.f1 r).1, (hullF s.f0 s.f1 r).2, 0)) := Lib.hid (by show (if okAll (s :: r) = true then _ else _) = _; rw [if_pos hok])
  rw [HF.out]
  clear hok
  have hrl : ((s :: r).length : Nat) - 1 = r.length := by simp
  have HDROP : Hid ((s :: r).drop 1 = r) := Lib.hid rfl
  have HAT : Hid (rd_T23 (s :: r) 0 = s) := Lib.hid rfl
  have hp : 0 < (s :: r).length := by simp
  generalize s :: r = ss at *
  obtain ⟨ad, rfl, _⟩ := HR.out.2.2 hp
  obtain ⟨i0, hi0, _, hsz0, _⟩ := info_parts info23
  have hcut := cut_from (P := Try.prog) 31 23 .i64 Try.underlying31 hi0 2 hsz0 (some ad) ss.length c 1 (by omega) (by omega)
  obtain ⟨A', hA'⟩ : ∃ A', (if c = (1 : Int).toNat then some ad else (some ad).map (·.add ((1 : Int).toNat * 2))) = A' := ⟨_, rfl⟩
  have HC1 : Hid (k23.C w A' r.length r) := by
    have := Kd.C_drop HR.out (m := 1) (by omega) hc
    rw [HDROP.out] at this
    rw [← hA']
    exact Lib.hid this
  rw [hA', show ss.length - (1 : Int).toNat = r.length from hrl] at hcut
  have hrl' : r.length ≤ 281474976710656 := by omega
  clear hi0 hsz0 hA' hrl
  go_enter Try.func22, Try.ntmps22
  go_wp2_with fail
  refine (contains_bad (some ad) c ss _ (Kd.C_alloc HR.out _) hc hl).mono ?_
  rintro e w1 ⟨rfl, hb⟩
  have HB := Lib.hid (below_then ((Below.refl w.heap.size w).alloc (Nat.le_refl _) _) (by simp) hb)
  have hblk := blk_below (blk_new w (.cells #[.int .i64 0, .int .i64 0] 23 (0, 0))) hb
  rw [HOK.out]
  have hw1 : w.heap.size < w1.heap.size := by have := hb.size; simp at this; omega
  obtain ⟨ad2, e2, x0, x1⟩ := at_T23 (Kd.C_below HR.out HB.out) (0 : Int) (by omega) (by omega)
  injection e2 with e2
  subst e2
  have ea : ad.add ((0 : Int).toNat * 2) = ad := by simp [Addr.add]
  rw [HAT.out, ea] at x0 x1
  clear ea
  have HBLK := Lib.hid hblk
  clear hb hblk
  go_wp2_with fail
  obtain ⟨g, hg⟩ : ∃ g, w1.heap.size = g := ⟨_, rfl⟩
  have HN : Hid ((w1.alloc (Obj.cells #[Value.int .i64 s.f0, Value.int .i64 s.f1] 23)).heap[g]? = some (.cells #[Value.int .i64 s.f0, Value.int .i64 s.f1] 23 (0, 0))) := Lib.hid (by rw [← hg]; exact blk_new _ _)
  have HW : Hid (w.heap.size < g) := Lib.hid (by rw [← hg]; exact hw1)
  rw [hg]
  have x0c := x0
  clear x0 x1 x0c hg hw1
  go_loopw [21] (Covers w g s r) (fun i _ => r.length - (intOf i).toNat)
  case atStart => exact ⟨0, rfl, Nat.zero_le _, HB.out.alloc HB.out.size _, HW.out, blk_alloc HBLK.out _, HN.out⟩
  case round =>
    obtain ⟨k, rfl, hk, hb, hgw, hr0, hr1⟩ := hrel
    have B1 := Lib.hid hb
    have B2 := Lib.hid hr0
    have B3 := Lib.hid hr1
    have c0 := blk_cell hr1 0
    have c1 := blk_cell hr1 1
    have f0 := blk_frozen hr1 0
    have f1 := blk_frozen hr1 1
    have glt := blk_lt hr1
    have HS := Lib.hid (hullF_snoc s.f0 s.f1 r k)
    generalize hpq : hullF s.f0 s.f1 (r.take k) = pq at *
    obtain ⟨a, b⟩ := pq
    have HPQ := Lib.hid hpq
    clear hb hr0 hr1 hpq
    by_cases hlt : k < r.length
    · have HS' := Lib.hid (HS.out hlt)
      obtain ⟨ad3, rfl, y0, y1⟩ := at_T23 (Kd.C_below HC1.out B1.out) (k : Int) (by omega) (by omega)
      rw [rdT_at r k hlt, Int.toNat_natCast] at y0 y1
      generalize r[k] = q at *
      have hd : decide ((k : Int) < (r.length : Int)) = true := by simpa using hlt
      go_wp2
      go_roundw
      case rel =>
        refine ⟨k + 1, by go_num, by omega, ?_, HW.out, ?_, ?_⟩
        · exact ((B1.out.setCell (p := ⟨g, 0, none⟩) (Nat.le_of_lt HW.out) _).setCell (p := ⟨g, 1, none⟩) (Nat.le_of_lt HW.out) _).alloc (by simpa using B1.out.size) _
        · exact blk_alloc (blk_far (p := ⟨g, 1, none⟩) (blk_far (p := ⟨g, 0, none⟩) B2.out (by have := HW.out; show _ ≠ g; omega) _) (by have := HW.out; show _ ≠ g; omega) _) _
        · rw [HS'.out]
          exact blk_alloc (blk_set (blk_set B3.out 0 _) 1 _) _
      case measure => simp [intOf]; omega
    · have hd : decide ((k : Int) < (r.length : Int)) = false := by simpa using hlt
      have d0 := blk_cell B2.out 0
      have d1 := blk_cell B2.out 1
      have e0 := blk_frozen B2.out 0
      have e1 := blk_frozen B2.out 1
      have HFIN : Hid (hullF s.f0 s.f1 r = (a, b)) := Lib.hid (by rw [← HPQ.out, List.take_of_length_le (by omega)])
      go_wp2
      have hb2 := blk_set (blk_set B2.out 0 (.int .i64 a)) 1 (.int .i64 b)
      have q0 := blk_cell hb2 0
      have q1 := blk_cell hb2 1
      rw [HFIN.out]
      exact bodyPost_ret (v := .tuple #[.agg #[.int .i64 a, .int .i64 b], .int .i64 0]) (by simp [results, Try.results22, go_sem, q0, q1]) rfl ⟨rfl, (B1.out.setCell (p := ⟨w.heap.size, 0, none⟩) (Nat.le_refl _) _).setCell (p := ⟨w.heap.size, 1, none⟩) (Nat.le_refl _) _⟩
theorem span_Cover.calls (A0 : Option Addr) (c0 : Nat) (l0 : List S23) (r1 r2 r3 : Int) (w : World) (hr0 : Kd.C k23 w A0 l0.length l0) (hc0 : l0.length ≤ c0) (h : span_Cover.f l0 = some (r1, r2, r3)) :
    Calls Try.prog 22 #[.slice A0 l0.length c0] w fun e w' => e = .returned (.tuple #[.agg #[.int .i64 r1, .int .i64 r2], .int .i64 r3]) ∧ Below w.heap.size w w' := by
  unfold span_Cover.f at h
  by_cases hl : l0.length ≤ 281474976710656
  · rw [if_pos hl] at h
    have := cover_is A0 c0 l0 w hr0 hc0 hl
    rw [Option.some.inj h] at this
    exact this
  · rw [if_neg hl] at h
    cases h
end Go.Proofs.Ytbacdpagpdmkoaa.Man
