/- ProfQ3: texts of this seat laid together by merge.py: Later, ProfY, ProfZ, ProfZb, ProfZc, ProfZd, ProfZe, ProfZf, ProfPa. -/
import Derived.Test.YtbacdpagpdmkoaaShelf
import Derived.Test.YtbacdpagpdmkoaaWMore
import Derived.BigQuiet
import Derived.Test.YtbacdpagpdmkoaaProfQ2
import Derived.Test.YtbacdpagpdmkoaaProfQ1
import Derived.Deep.RegionHeld3
set_option linter.unusedVariables false
set_option linter.unusedSimpArgs false
/- A region that draws its order, whose operations only read and whose callees leave the blocks that stood as they were (they may make new ones): one walk in the order of the text. -/
namespace Go.Proofs.Ytbacdpagpdmkoaa.Man
open Go Go.RowKit Go.Proofs.YtbacdpagpdmkoaaW.PrintWords Go.Proofs.YtbacdpagpdmkoaaW.PrintLast Go.Proofs.YtbacdpagpdmkoaaW.PrintMore

/-- A world in which all blocks of w are as they were. -/
def Later (w : World) : Type := {W : World // Below w.heap.size w W}
def Later.at {w : World} (x : Later w) : World := x.val
instance (w : World) : Nonempty (Later w) := ⟨⟨w, Below.refl _ _⟩⟩
theorem Later.below {w : World} (x : Later w) : Below w.heap.size w x.at := x.property
theorem Later.cell {w : World} {a : Addr} {v : Value} (h : w.cell? a = some v) (x : Later w) : x.at.cell? a = some v := pw_cell_below x.below h
theorem wp_region_later {P : Program} {id : Nat} {Q : Exit → Act → World → Prop} {a : Act} {w : World} {l : List Oper} (hm : P.follows .mixedOrders = true) (hB : Region.lexB .any l.toArray = true)
    (h : wpQuiet P l.toArray (fun w' => ∃ x : Later w, w' = x.at) (fun a' => ∀ w', (∃ x : Later w, w' = x.at) → Q .normal a' w') l a) : (Code.region id l.toArray true).wp P Q a w :=
  wp_region_quiet (C := fun w' => ∃ x : Later w, w' = x.at) hm hB ⟨⟨{ w with drawn := w.drawn + 1 }, below_drew (Below.refl _ _)⟩, rfl⟩ (by simpa using h)
theorem later_of {P : Program} {f : FuncId} {args : Array Value} {w : World} {x : Later w} {v : Value} (h : Calls P f args x.at fun e w' => e = .returned v ∧ Below x.at.heap.size x.at w') : Calls P f args x.at fun e w'' => e = .returned v ∧ ∃ y : Later w, w'' = y.at :=
  h.mono fun _ w' ⟨he, hb⟩ => ⟨he, ⟨w', below_then x.below x.below.size hb⟩, rfl⟩
end Go.Proofs.Ytbacdpagpdmkoaa.Man

/- The reference's small functions of profiles: what they answer, and that the calls answer so. -/
namespace Go.Proofs.Ytbacdpagpdmkoaa.Man
open Go.RowKit Go.Proofs.Ytbacdpagpdmkoaa.QT Go.Proofs.YtbacdpagpdmkoaaW.PrintWords Go.Proofs.YtbacdpagpdmkoaaW.PrintLast Go.Proofs.YtbacdpagpdmkoaaW.PrintMore

set_option maxHeartbeats 4000000 in
set_option maxRecDepth 100000 in
theorem rmayS_is (a b : Int) (w : World) : Calls Try.prog 18 #[.agg #[.int .i64 a, .int .i64 b]] w fun e w' => e = .returned (.bool (mayF a b)) ∧ Below w.heap.size w w' := by
  unfold mayF
  cases h0 : decide (0 ≤ a)
  · go_enter Try.func18, Try.ntmps18
    go_wp2
    go_ret
    exact ⟨rfl, (Below.refl _ _).alloc (Nat.le_refl _) _⟩
  cases h1 : decide (a < b)
  all_goals
    go_enter Try.func18, Try.ntmps18
    go_wp2
    go_ret
    exact ⟨by first | rfl | simp, (Below.refl _ _).alloc (Nat.le_refl _) _⟩
set_option maxHeartbeats 4000000 in
set_option maxRecDepth 100000 in
theorem rhas_is (a b t : Int) (w : World) : Calls Try.prog 20 #[.agg #[.int .i64 a, .int .i64 b], .int .i64 t] w fun e w' => e = .returned (.bool (hasF a b t)) ∧ Below w.heap.size w w' := by
  unfold hasF
  cases hm : mayF a b
  · have HM := Lib.hid hm
    clear hm
    go_enter Try.func20, Try.ntmps20
    go_wp2_with fail
    refine (rmayS_is a b _).mono ?_
    rintro e w1 ⟨rfl, hb⟩
    obtain ⟨hc, hf⟩ := bcell hb
    rw [HM.out]
    have HB := Lib.hid (belowW ((Below.refl w.heap.size w).alloc (Nat.le_refl _) _) hb (by simp))
    clear hb
    go_wp2
    go_ret
    exact ⟨rfl, HB.out⟩
  have HM := Lib.hid hm
  clear hm
  cases h0 : decide (a ≤ t)
  all_goals
    go_enter Try.func20, Try.ntmps20
    go_wp2_with fail
    refine (rmayS_is a b _).mono ?_
    rintro e w1 ⟨rfl, hb⟩
    obtain ⟨hc, hf⟩ := bcell hb
    rw [HM.out]
    have HB := Lib.hid (belowW ((Below.refl w.heap.size w).alloc (Nat.le_refl _) _) hb (by simp))
    clear hb
    go_wp2
    go_ret
    exact ⟨by first | rfl | simp, HB.out⟩
set_option maxHeartbeats 4000000 in
set_option maxRecDepth 100000 in
theorem rwmay_is (a b l : Int) (w : World) : Calls Try.prog 62 #[.agg #[.int .i64 a, .int .i64 b, .int .i64 l]] w fun e w' => e = .returned (.bool (wmayF a b l)) ∧ Below w.heap.size w w' := by
  unfold wmayF
  cases h0 : mayF a b
  · have H0 := Lib.hid h0
    clear h0
    go_enter Try.func62, Try.ntmps62
    go_wp2_with fail
    refine (rmayS_is a b _).mono ?_
    rintro e w1 ⟨rfl, hb1⟩
    have HB1 := Lib.hid (below_then ((Below.refl w.heap.size w).alloc (Nat.le_refl _) (.cells #[.int .i64 a, .int .i64 b, .int .i64 l] 73)) (by simp) hb1)
    clear hb1
    rw [H0.out]
    go_wp2
    exact bodyPost_ret (v := .bool false) (by simp [results, Try.results62, go_sem]) rfl ⟨rfl, HB1.out⟩
  · have H0 := Lib.hid h0
    clear h0
    go_enter Try.func62, Try.ntmps62
    go_wp2_with fail
    refine (rmayS_is a b _).mono ?_
    rintro e w1 ⟨rfl, hb1⟩
    have HB1 := Lib.hid (below_then ((Below.refl w.heap.size w).alloc (Nat.le_refl _) (.cells #[.int .i64 a, .int .i64 b, .int .i64 l] 73)) (by simp) hb1)
    have hx := blk_below (blk_new w (.cells #[.int .i64 a, .int .i64 b, .int .i64 l] 73 (0, 0))) hb1
    have c2 := blk_cell hx 2
    simp at c2
    clear hb1 hx
    rw [H0.out]
    go_wp2_with fail
    refine (rrate_is l _).mono ?_
    rintro e w2 ⟨rfl, rfl⟩
    go_wp2
    exact bodyPost_ret (v := .bool (rateF l)) (by simp [results, Try.results62, go_sem]) rfl ⟨by simp, HB1.out⟩


def RSumAt (w : World) (xs : List Int) (t i : Value) (w' : World) : Prop := ∃ (k : Nat) (acc : Int), i = .int .i64 (k : Int) ∧ t = .int .i64 acc ∧ k ≤ xs.length ∧ 0 ≤ acc ∧ acc ≤ 4611686018427387904 ∧ sumR 0 xs = sumR acc (xs.drop k) ∧ w' = w
theorem rate_sum (x acc : Int) (h0 : 0 ≤ acc) : (rateF x = true ∧ x ≤ 4611686018427387904 - acc) ↔ (0 ≤ x ∧ x ≤ 4611686018427387904 - acc) := by
  unfold rateF
  simp only [Bool.and_eq_true, decide_eq_true_eq]
  omega
set_option maxHeartbeats 4000000 in
set_option maxRecDepth 100000 in
theorem rsum_is (A : Option Addr) (c : Nat) (xs : List Int) (w : World) (hr : (Kd.int .i64).C w A xs.length xs) (hc : xs.length ≤ c) (hl : xs.length ≤ 281474976710656) :
    Calls Try.prog 82 #[.slice A xs.length c] w fun e w' => e = .returned (.tuple #[.int .i64 (sumR 0 xs).1, .bool (sumR 0 xs).2]) ∧ w' = w := by
  have HR := Lib.hid hr
  clear hr
  go_enter Try.func82, Try.ntmps82
  go_wp2_with fail
  go_loopw [4, 5] (RSumAt w xs) (fun _ i _ => xs.length - (intOf i).toNat)
  case atStart => exact ⟨0, 0, rfl, rfl, Nat.zero_le _, by omega, by omega, rfl, rfl⟩
  case round =>
    obtain ⟨k, acc, rfl, rfl, hk, h0, h1, hs, rfl⟩ := hrel
    have HS := Lib.hid hs
    clear hs
    by_cases hlt : k < xs.length
    · obtain ⟨ad, rfl, x0⟩ := Kd.at_int HR.out (k : Int) (by omega) (by omega)
      have hx : rd xs (k : Int) = xs[k] := by simp [rd, List.getD_eq_getElem?_getD, hlt]
      have HD : Hid (xs.drop k = xs[k] :: xs.drop (k + 1)) := Lib.hid (List.drop_eq_getElem_cons hlt)
      rw [hx, Int.toNat_natCast] at x0
      clear hx
      generalize xs[k] = x at x0 HD
      have hd : decide ((k : Int) < (xs.length : Int)) = true := by simpa using hlt
      have hw : wrap64 (4611686018427387904 - acc) = 4611686018427387904 - acc := by unfold wrap64; omega
      by_cases c1 : 0 ≤ x
      case neg =>
        have HF : Hid (sumR 0 xs = (0, false)) := Lib.hid (by rw [HS.out, HD.out, sumR, if_neg (fun h => c1 ((rate_sum x acc h0).1 h).1)])
        have d1 : decide (x < 0) = true := decide_eq_true (by omega)
        clear c1 hw
        go_wp2
        exact bodyPost_ret (v := .tuple #[.int .i64 0, .bool false]) (by simp [results, Try.results82, go_sem]) rfl ⟨by rw [HF.out], rfl⟩
      have d1 : decide (x < 0) = false := decide_eq_false (by omega)
      by_cases c2 : x ≤ 4611686018427387904 - acc
      · have HF : Hid (sumR 0 xs = sumR (acc + x) (xs.drop (k + 1))) := Lib.hid (by rw [HS.out, HD.out, sumR, if_pos ((rate_sum x acc h0).2 ⟨c1, c2⟩)])
        have d2 : decide (x > 4611686018427387904 - acc) = false := decide_eq_false (by omega)
        clear hw
        go_wp2
        go_roundw
        case rel => exact ⟨k + 1, acc + x, by go_num, by first | rfl | simp, by omega, by omega, by omega, HF.out, rfl⟩
        case measure => simp [intOf]; omega
      · have HF : Hid (sumR 0 xs = (0, false)) := Lib.hid (by rw [HS.out, HD.out, sumR, if_neg (fun h => c2 h.2)])
        have d2 : decide (x > 4611686018427387904 - acc) = true := decide_eq_true (by omega)
        clear hw
        go_wp2
        exact bodyPost_ret (v := .tuple #[.int .i64 0, .bool false]) (by simp [results, Try.results82, go_sem]) rfl ⟨by rw [HF.out], rfl⟩
    · have hd : decide ((k : Int) < (xs.length : Int)) = false := by simpa using hlt
      have HF : Hid (sumR 0 xs = (acc, true)) := Lib.hid (by rw [HS.out, List.drop_of_length_le (by omega), sumR])
      go_wp2
      exact bodyPost_ret (v := .tuple #[.int .i64 acc, .bool true]) (by simp [results, Try.results82, go_sem]) rfl ⟨by rw [HF.out], rfl⟩

/-- The load at an instant, as the reference seeks it. -/
def atL (t : Int) : Int → List Rn → Int
  | acc, [] => acc
  | acc, x :: r => atL t (if x.f0 ≤ t then x.f1 else acc) r
def AtAt (w : World) (t : Int) (rs : List Rn) (v i : Value) (w' : World) : Prop := ∃ (k : Nat) (acc : Int), v = .int .i64 acc ∧ i = .int .i64 (k : Int) ∧ k ≤ rs.length ∧ atL t 0 rs = atL t acc (rs.drop k) ∧ w' = w
set_option maxHeartbeats 4000000 in
set_option maxRecDepth 100000 in
theorem rat_is (A : Option Addr) (c : Nat) (rs : List Rn) (t : Int) (w : World) (hr : Kd.C k82 w A rs.length rs) (hc : rs.length ≤ c) (hl : rs.length ≤ 281474976710656) :
    Calls Try.prog 55 #[.slice A rs.length c, .int .i64 t] w fun e w' => e = .returned (.int .i64 (atL t 0 rs)) ∧ w' = w := by
  have HR := Lib.hid hr
  clear hr
  go_enter Try.func55, Try.ntmps55
  go_wp2_with fail
  go_loopw [5, 6] (AtAt w t rs) (fun _ i _ => rs.length - (intOf i).toNat)
  case atStart => exact ⟨0, 0, rfl, rfl, Nat.zero_le _, rfl, rfl⟩
  case round =>
    obtain ⟨k, acc, rfl, rfl, hk, hs, rfl⟩ := hrel
    have HS := Lib.hid hs
    clear hs
    by_cases hlt : k < rs.length
    · obtain ⟨ad, rfl, x0, x1⟩ := at_T82 HR.out (k : Int) (by omega) (by omega)
      have HD : Hid (rs.drop k = rs[k] :: rs.drop (k + 1)) := Lib.hid (List.drop_eq_getElem_cons hlt)
      rw [rdR_at rs k hlt, Int.toNat_natCast] at x0 x1
      generalize rs[k] = x at x0 x1 HD
      have hd : decide ((k : Int) < (rs.length : Int)) = true := by simpa using hlt
      by_cases c1 : x.f0 ≤ t
      · have d1 : decide (x.f0 ≤ t) = true := by simpa using c1
        have HF : Hid (atL t 0 rs = atL t x.f1 (rs.drop (k + 1))) := Lib.hid (by rw [HS.out, HD.out, atL, if_pos c1])
        clear c1
        go_wp2
        go_roundw
        case rel => exact ⟨k + 1, x.f1, rfl, by go_num, by omega, HF.out, rfl⟩
        case measure => simp [intOf]; omega
      · have d1 : decide (x.f0 ≤ t) = false := by simpa using c1
        have HF : Hid (atL t 0 rs = atL t acc (rs.drop (k + 1))) := Lib.hid (by rw [HS.out, HD.out, atL, if_neg c1])
        clear c1
        go_wp2
        go_roundw
        case rel => exact ⟨k + 1, acc, rfl, by go_num, by omega, HF.out, rfl⟩
        case measure => simp [intOf]; omega
    · have hd : decide ((k : Int) < (rs.length : Int)) = false := by simpa using hlt
      have HF : Hid (atL t 0 rs = acc) := Lib.hid (by rw [HS.out, List.drop_of_length_le (by omega), atL])
      go_wp2
      exact bodyPost_ret (v := .int .i64 acc) (by simp [results, Try.results55, go_sem]) rfl ⟨by rw [HF.out], rfl⟩

/-- Does a weight begin or end then? -/
def turnsF (t : Int) : List Wt → Bool
  | [] => false
  | x :: r => if x.f0.f0 = t ∨ x.f0.f1 = t then true else turnsF t r
def TurnsAt (w : World) (t : Int) (ws : List Wt) (i : Value) (w' : World) : Prop := ∃ (k : Nat), i = .int .i64 (k : Int) ∧ k ≤ ws.length ∧ turnsF t ws = turnsF t (ws.drop k) ∧ w' = w
set_option maxHeartbeats 4000000 in
set_option maxRecDepth 100000 in
theorem turns_is (A : Option Addr) (c : Nat) (ws : List Wt) (t : Int) (w : World) (hr : Kd.C k73 w A ws.length ws) (hc : ws.length ≤ c) (hl : ws.length ≤ 281474976710656) :
    Calls Try.prog 63 #[.slice A ws.length c, .int .i64 t] w fun e w' => e = .returned (.bool (turnsF t ws)) ∧ w' = w := by
  have HR := Lib.hid hr
  clear hr
  go_enter Try.func63, Try.ntmps63
  go_wp2_with fail
  go_loopw [5] (TurnsAt w t ws) (fun i _ => ws.length - (intOf i).toNat)
  case atStart => exact ⟨0, rfl, Nat.zero_le _, rfl, rfl⟩
  case round =>
    obtain ⟨k, rfl, hk, hs, rfl⟩ := hrel
    have HS := Lib.hid hs
    clear hs
    by_cases hlt : k < ws.length
    · obtain ⟨ad, rfl, x0, x1, x2⟩ := at_T73 HR.out (k : Int) (by omega) (by omega)
      have HD : Hid (ws.drop k = ws[k] :: ws.drop (k + 1)) := Lib.hid (List.drop_eq_getElem_cons hlt)
      rw [rdW_at ws k hlt, Int.toNat_natCast] at x0 x1 x2
      generalize ws[k] = x at x0 x1 x2 HD
      have hd : decide ((k : Int) < (ws.length : Int)) = true := by simpa using hlt
      by_cases c1 : x.f0.f0 = t
      · have d1 : (x.f0.f0 == t) = true := by simpa using c1
        have HF : Hid (turnsF t ws = true) := Lib.hid (by rw [HS.out, HD.out, turnsF, if_pos (Or.inl c1)])
        clear c1
        go_wp2
        exact bodyPost_ret (v := .bool true) (by simp [results, Try.results63, go_sem]) rfl ⟨by rw [HF.out], rfl⟩
      have d1 : (x.f0.f0 == t) = false := by simpa using c1
      by_cases c2 : x.f0.f1 = t
      · have d2 : (x.f0.f1 == t) = true := by simpa using c2
        have HF : Hid (turnsF t ws = true) := Lib.hid (by rw [HS.out, HD.out, turnsF, if_pos (Or.inr c2)])
        clear c1 c2
        go_wp2
        exact bodyPost_ret (v := .bool true) (by simp [results, Try.results63, go_sem]) rfl ⟨by rw [HF.out], rfl⟩
      · have d2 : (x.f0.f1 == t) = false := by simpa using c2
        have HF : Hid (turnsF t ws = turnsF t (ws.drop (k + 1))) := Lib.hid (by rw [HS.out, HD.out, turnsF, if_neg (fun h => h.elim c1 c2)])
        clear c1 c2
        go_wp2
        go_roundw
        case rel => exact ⟨k + 1, by go_num, by omega, HF.out, rfl⟩
        case measure => simp [intOf]; omega
    · have hd : decide ((k : Int) < (ws.length : Int)) = false := by simpa using hlt
      have HF : Hid (turnsF t ws = false) := Lib.hid (by rw [HS.out, List.drop_of_length_le (by omega), turnsF])
      go_wp2
      exact bodyPost_ret (v := .bool false) (by simp [results, Try.results63, go_sem]) rfl ⟨by rw [HF.out], rfl⟩

/-- Does a run begin then? -/
def beginsF (t : Int) : List Rn → Bool
  | [] => false
  | x :: r => if x.f0 = t then true else beginsF t r
def startsF (a b : Int) (rs : List Rn) (t : Int) : Bool := if a = t ∨ b = t then true else beginsF t rs
def StartsAt (w : World) (t : Int) (rs : List Rn) (i : Value) (w' : World) : Prop := ∃ (k : Nat), i = .int .i64 (k : Int) ∧ k ≤ rs.length ∧ beginsF t rs = beginsF t (rs.drop k) ∧ Below w.heap.size w w'
set_option maxHeartbeats 4000000 in
set_option maxRecDepth 100000 in
theorem starts_is (A : Option Addr) (c : Nat) (rs : List Rn) (a b l t : Int) (w : World) (hr : Kd.C k82 w A rs.length rs) (hc : rs.length ≤ c) (hl : rs.length ≤ 281474976710656) :
    Calls Try.prog 69 #[.slice A rs.length c, .agg #[.int .i64 a, .int .i64 b, .int .i64 l], .int .i64 t] w fun e w' => e = .returned (.bool (startsF a b rs t)) ∧ Below w.heap.size w w' := by
  have HR := Lib.hid hr
  clear hr
  have HB0 : Hid (Below w.heap.size w (w.alloc (.cells #[.int .i64 a, .int .i64 b, .int .i64 l] 73))) := Lib.hid ((Below.refl _ _).alloc (Nat.le_refl _) _)
  unfold startsF
  by_cases c1 : a = t
  · have d1 : (a == t) = true := by simpa using c1
    rw [if_pos (Or.inl c1)]
    clear c1
    go_enter Try.func69, Try.ntmps69
    go_wp2
    exact bodyPost_ret (v := .bool true) (by simp [results, Try.results69, go_sem]) rfl ⟨rfl, HB0.out⟩
  have d1 : (a == t) = false := by simpa using c1
  by_cases c2 : b = t
  · have d2 : (b == t) = true := by simpa using c2
    rw [if_pos (Or.inr c2)]
    clear c1 c2
    go_enter Try.func69, Try.ntmps69
    go_wp2
    exact bodyPost_ret (v := .bool true) (by simp [results, Try.results69, go_sem]) rfl ⟨rfl, HB0.out⟩
  have d2 : (b == t) = false := by simpa using c2
  rw [if_neg (fun h => h.elim c1 c2)]
  clear c1 c2
  go_enter Try.func69, Try.ntmps69
  go_wp2_with fail
  go_loopw [7] (StartsAt w t rs) (fun i _ => rs.length - (intOf i).toNat)
  case atStart => exact ⟨0, rfl, Nat.zero_le _, rfl, HB0.out⟩
  case round =>
    obtain ⟨k, rfl, hk, hs, hb⟩ := hrel
    have HS := Lib.hid hs
    have HB := Lib.hid hb
    clear hs hb
    by_cases hlt : k < rs.length
    · obtain ⟨ad, rfl, x0, x1⟩ := at_T82 (Kd.C_below HR.out HB.out) (k : Int) (by omega) (by omega)
      have HD : Hid (rs.drop k = rs[k] :: rs.drop (k + 1)) := Lib.hid (List.drop_eq_getElem_cons hlt)
      rw [rdR_at rs k hlt, Int.toNat_natCast] at x0 x1
      generalize rs[k] = x at x0 x1 HD
      have hd : decide ((k : Int) < (rs.length : Int)) = true := by simpa using hlt
      by_cases c1 : x.f0 = t
      · have d3 : (x.f0 == t) = true := by simpa using c1
        have HF : Hid (beginsF t rs = true) := Lib.hid (by rw [HS.out, HD.out, beginsF, if_pos c1])
        clear c1
        go_wp2
        exact bodyPost_ret (v := .bool true) (by simp [results, Try.results69, go_sem]) rfl ⟨by rw [HF.out], HB.out⟩
      · have d3 : (x.f0 == t) = false := by simpa using c1
        have HF : Hid (beginsF t rs = beginsF t (rs.drop (k + 1))) := Lib.hid (by rw [HS.out, HD.out, beginsF, if_neg c1])
        clear c1
        go_wp2
        go_roundw
        case rel => exact ⟨k + 1, by go_num, by omega, HF.out, HB.out⟩
        case measure => simp [intOf]; omega
    · have hd : decide ((k : Int) < (rs.length : Int)) = false := by simpa using hlt
      have HF : Hid (beginsF t rs = false) := Lib.hid (by rw [HS.out, List.drop_of_length_le (by omega), beginsF])
      go_wp2
      exact bodyPost_ret (v := .bool false) (by simp [results, Try.results69, go_sem]) rfl ⟨by rw [HF.out], HB.out⟩
end Go.Proofs.Ytbacdpagpdmkoaa.Man

/- The reference's sum, put, At, Most of profiles: what they answer, and that the calls answer so. -/
namespace Go.Proofs.Ytbacdpagpdmkoaa.Man
open Go.RowKit Go.Proofs.Ytbacdpagpdmkoaa.QT Go.Proofs.YtbacdpagpdmkoaaW.PrintWords Go.Proofs.YtbacdpagpdmkoaaW.PrintLast Go.Proofs.YtbacdpagpdmkoaaW.PrintMore

/-- The loads of the weights that have an instant. -/
def inW (t : Int) : List Wt → List Int
  | [] => []
  | x :: r => if hasF x.f0.f0 x.f0.f1 t = true then x.f1 :: inW t r else inW t r
theorem inW_length (t : Int) : ∀ ws : List Wt, (inW t ws).length ≤ ws.length
  | [] => Nat.le_refl _
  | x :: r => by
    have := inW_length t r
    unfold inW
    split <;> simp <;> omega
def sumW (t : Int) (ws : List Wt) : Int × Bool := sumR 0 (inW t ws)
def InAt (w : World) (t : Int) (ws : List Wt) (v i : Value) (w' : World) : Prop := ∃ (k : Nat) (xs : List Int), i = .int .i64 (k : Int) ∧ k ≤ ws.length ∧ xs.length ≤ k ∧ inW t ws = xs ++ inW t (ws.drop k) ∧ Kd.R (Kd.int .i64) 3 w' w.heap.size (fun _ => True) v xs ∧ Below w.heap.size w w'
set_option maxHeartbeats 4000000 in
set_option maxRecDepth 100000 in
theorem rsumw_is (A : Option Addr) (c : Nat) (ws : List Wt) (t : Int) (w : World) (hr : Kd.C k73 w A ws.length ws) (hc : ws.length ≤ c) (hl : ws.length ≤ 8796093022208) :
    Calls Try.prog 64 #[.slice A ws.length c, .int .i64 t] w fun e w' => e = .returned (.tuple #[.int .i64 (sumW t ws).1, .bool (sumW t ws).2]) ∧ Below w.heap.size w w' := by
  have HR := Lib.hid hr
  clear hr
  obtain ⟨F, hF⟩ : ∃ F, sumW t ws = F := ⟨_, rfl⟩
  rw [hF]
  have HF := Lib.hid hF
  clear hF
  go_enter Try.func64, Try.ntmps64
  go_wp2_with fail
  go_loopw [6, 7] (InAt w t ws) (fun _ i _ => ws.length - (intOf i).toNat)
  case atStart => exact ⟨0, [], rfl, Nat.zero_le _, Nat.le_refl _, rfl, Kd.R_nil _ _ _ _ _, Below.refl _ _⟩
  case round =>
    obtain ⟨k, xs, rfl, hk, hxl, hs, ho, hb⟩ := hrel
    obtain ⟨Av, cv, rfl⟩ := Kd.R_slice ho
    have HS := Lib.hid hs
    have HO := Lib.hid ho
    have HB := Lib.hid hb
    have HXL := Lib.hid hxl
    clear hs ho hb hxl
    by_cases hlt : k < ws.length
    · obtain ⟨ad, rfl, x0, x1, x2⟩ := at_T73 (Kd.C_below HR.out HB.out) (k : Int) (by omega) (by omega)
      have HD : Hid (ws.drop k = ws[k] :: ws.drop (k + 1)) := Lib.hid (List.drop_eq_getElem_cons hlt)
      rw [rdW_at ws k hlt, Int.toNat_natCast] at x0 x1 x2
      generalize ws[k] = x at x0 x1 x2 HD
      have hd : decide ((k : Int) < (ws.length : Int)) = true := by simpa using hlt
      obtain ⟨hv, hhv⟩ : ∃ hv, hasF x.f0.f0 x.f0.f1 t = hv := ⟨_, rfl⟩
      have HH : Hid (∀ W, Calls Try.prog 20 #[.agg #[.int .i64 x.f0.f0, .int .i64 x.f0.f1], .int .i64 t] W fun e w' => e = .returned (.bool hv) ∧ Below W.heap.size W w') := Lib.hid (fun W => by rw [← hhv]; exact rhas_is _ _ _ W)
      have HV := Lib.hid hhv
      clear hhv
      go_wp2_with fail
      refine (HH.out _).mono ?_
      rintro e w1 ⟨rfl, hb1⟩
      have HB1 := Lib.hid (below_then HB.out HB.out.size hb1)
      have HO1 := Lib.hid (Kd.R_below HO.out hb1)
      have y2 := pw_cell_below hb1 x2
      clear hb1 x0 x1 x2
      cases hv with
      | false =>
        have HF2 : Hid (inW t ws = xs ++ inW t (ws.drop (k + 1))) := Lib.hid (by rw [HS.out, HD.out, inW, if_neg (by rw [HV.out]; decide)])
        clear y2
        go_wp2
        go_roundw
        case rel => exact ⟨k + 1, xs, by go_num, by omega, by have := HXL.out; omega, HF2.out, HO1.out, HB1.out⟩
        case measure => simp [intOf]; omega
      | true =>
        have HF2 : Hid (inW t ws = (xs ++ [x.f1]) ++ inW t (ws.drop (k + 1))) := Lib.hid (by rw [HS.out, HD.out, inW, if_pos HV.out]; simp)
        have HLN : Hid ((xs.length + 1) * 8 ≤ 140737488355328) := Lib.hid (by have := HXL.out; omega)
        go_wp2_with (first | ((with_reducible refine gate_builtin (b := .append) (xs := #[.tmp 21, .tmp 27]) rfl ?_); at_builtin; refine Kd.R_append (Kd.int .i64) (w0 := w) w.heap.size rfl (.tmp 21) (.tmp 27) 41 3 (.int .i64 0) 8 rfl Try.underlying41 info3 rfl (by decide) (by omega) (.slice Av xs.length cv) xs x.f1 [.int .i64 x.f1] (fun _ => True) (fun _ => False) rfl rfl ?aP (fun _ hk => hk.elim) ?aF ?aO ?aB ?aS ?aL ?_; (case aP => exact rfl); (case aF => exact (fun _ _ => trivial)); (case aO => exact HO1.out); (case aB => exact HB1.out); (case aS => exact HB1.out.size); (case aL => exact HLN.out); intro v4 w4 ho4 hb4 hg4 _; have HO4 := Lib.hid ho4; have HB4 := Lib.hid hb4; clear ho4 hb4 hg4))
        go_roundw
        case rel => exact ⟨k + 1, xs ++ [x.f1], by go_num, by omega, by have := HXL.out; simp; omega, HF2.out, HO4.out, HB4.out⟩
        case measure => simp [intOf]; omega
    · have hd : decide ((k : Int) < (ws.length : Int)) = false := by simpa using hlt
      have HF2 : Hid (F = sumR 0 xs) := Lib.hid (by rw [← HF.out, sumW, HS.out, List.drop_of_length_le (by omega), inW, List.append_nil])
      obtain ⟨Av2, cv2, e9, hxc, hC9⟩ := Kd.R_reads HO.out
      injection e9 with e91 _ e93
      subst e91 e93
      have HSM := Lib.hid (rsum_is Av cv xs wr hC9 hxc (by have := HXL.out; omega))
      clear hC9
      generalize sumR 0 xs = r at HF2 HSM
      go_wp2_with fail
      refine HSM.out.mono ?_
      rintro e w1 ⟨rfl, rfl⟩
      go_wp2
      exact bodyPost_ret (v := .tuple #[.int .i64 r.1, .bool r.2]) (by simp [results, Try.results64, go_sem]) rfl ⟨by rw [HF2.out], HB.out⟩

/-- A run more, if its load is another one than the last. -/
def putF (rs : List Rn) (f l : Int) : List Rn := match rs.getLast? with | some x => if x.f1 = l then rs else rs ++ [⟨f, l⟩] | none => [⟨f, l⟩]
theorem putF_le (rs : List Rn) (f l : Int) : (putF rs f l).length ≤ rs.length + 1 := by
  unfold putF
  split
  · split <;> simp
  · simp
set_option maxHeartbeats 4000000 in
set_option maxRecDepth 100000 in
theorem put_is (v : Value) (base : Nat) (rs : List Rn) (f l : Int) (w : World) (hr : Kd.R k82 82 w base (fun _ => True) v rs) (hb : base ≤ w.heap.size) (hl : (rs.length + 1) * 16 ≤ 140737488355328) :
    Calls Try.prog 65 #[v, .int .i64 f, .int .i64 l] w fun e w' => ∃ v', e = .returned v' ∧ Kd.R k82 82 w' base (fun _ => True) v' (putF rs f l) ∧ Below base w w' := by
  obtain ⟨Av, cv, rfl, hcv, hC⟩ := Kd.R_reads hr
  have HR := Lib.hid hr
  have HB0 := Lib.hid (Below.refl base w)
  clear hr
  rcases Nat.eq_zero_or_pos rs.length with h0 | h0
  · obtain rfl : rs = [] := List.eq_nil_of_length_eq_zero h0
    have HF : Hid (putF [] f l = [] ++ [⟨f, l⟩]) := Lib.hid rfl
    clear hC
    simp only [List.length_nil] at HR hcv hl ⊢
    go_enter Try.func65, Try.ntmps65
    go_wp2_with (first | ((with_reducible refine gate_builtin (b := .append) (xs := #[.tmp 22, .tmp 26]) rfl ?_); at_builtin; refine Kd.R_append k82 (w0 := w) base rfl (.tmp 22) (.tmp 26) 50 82 (.agg #[.int .i64 0, .int .i64 0]) 16 rfl Try.underlying50 info82 rfl (by decide) (by omega) (.slice Av 0 cv) [] ⟨f, l⟩ [.int .i64 f, .int .i64 l] (fun _ => True) (fun _ => False) rfl rfl ?aP (fun _ hk => hk.elim) ?aF ?aO ?aB ?aS ?aL ?_; (case aP => exact k82_mkM _ _ _ ⟨f, l⟩); (case aF => exact (fun _ _ => trivial)); (case aO => exact HR.out); (case aB => exact HB0.out); (case aS => exact hb); (case aL => exact hl); intro v8 w8 ho8 hb8 hg8 _; have HO8 := Lib.hid ho8; have HB8 := Lib.hid hb8; clear ho8 hb8 hg8))
    exact bodyPost_ret (v := v8) (by simp [results, Try.results65, go_sem]) rfl ⟨_, rfl, by rw [HF.out]; exact HO8.out, HB8.out⟩
  obtain ⟨n, hn⟩ : ∃ n, rs.length = n + 1 := ⟨rs.length - 1, by omega⟩
  obtain ⟨ad, rfl, x0, x1⟩ := at_T82 hC (n : Int) (by omega) (by omega)
  have hgl : rs.getLast? = some (rs[n]'(by omega)) := by rw [List.getLast?_eq_getElem?, show rs.length - 1 = n by omega, List.getElem?_eq_getElem]
  rw [rdR_at rs n (by omega), Int.toNat_natCast] at x0 x1
  have HP : Hid (putF rs f l = if (rs[n]'(by omega)).f1 = l then rs else rs ++ [⟨f, l⟩]) := Lib.hid (by unfold putF; rw [hgl])
  generalize rs[n]'(by omega) = x at x0 x1 HP
  have hn1 : (rs.length : Int) - 1 = (n : Int) := by omega
  have hnw : IntKind.i64.wrap ((rs.length : Int) - 1) = (n : Int) := by rw [IntWalk.i64_in _ (by omega)]; omega
  have hnw2 : IntKind.i64.wrap (n : Int) = (n : Int) := IntWalk.i64_in _ (by omega)
  have hd : decide ((rs.length : Int) > 0) = true := decide_eq_true (by omega)
  have hn0 : (0 : Int) ≤ (n : Int) := by omega
  have hnl : (n : Int) < (rs.length : Int) := by omega
  clear hC hgl
  by_cases c1 : x.f1 = l
  · have d1 : (x.f1 == l) = true := by simpa using c1
    have HF : Hid (putF rs f l = rs) := Lib.hid (by rw [HP.out, if_pos c1])
    clear c1
    go_enter Try.func65, Try.ntmps65
    go_wp2
    exact bodyPost_ret (v := .slice (some ad) rs.length cv) (by simp [results, Try.results65, go_sem]) rfl ⟨_, rfl, by rw [HF.out]; exact HR.out, Below.refl _ _⟩
  · have d1 : (x.f1 == l) = false := by simpa using c1
    have HF : Hid (putF rs f l = rs ++ [⟨f, l⟩]) := Lib.hid (by rw [HP.out, if_neg c1])
    have HLN := Lib.hid hl
    clear c1
    go_enter Try.func65, Try.ntmps65
    go_wp2_with (first | ((with_reducible refine gate_builtin (b := .append) (xs := #[.tmp 22, .tmp 26]) rfl ?_); at_builtin; refine Kd.R_append k82 (w0 := w) base rfl (.tmp 22) (.tmp 26) 50 82 (.agg #[.int .i64 0, .int .i64 0]) 16 rfl Try.underlying50 info82 rfl (by decide) (by omega) (.slice (some ad) rs.length cv) rs ⟨f, l⟩ [.int .i64 f, .int .i64 l] (fun _ => True) (fun _ => False) rfl rfl ?aP (fun _ hk => hk.elim) ?aF ?aO ?aB ?aS ?aL ?_; (case aP => exact k82_mkM _ _ _ ⟨f, l⟩); (case aF => exact (fun _ _ => trivial)); (case aO => exact HR.out); (case aB => exact HB0.out); (case aS => exact hb); (case aL => exact HLN.out); intro v8 w8 ho8 hb8 hg8 _; have HO8 := Lib.hid ho8; have HB8 := Lib.hid hb8; clear ho8 hb8 hg8))
    exact bodyPost_ret (v := v8) (by simp [results, Try.results65, go_sem]) rfl ⟨_, rfl, by rw [HF.out]; exact HO8.out, HB8.out⟩

def ratF (rs : List Rn) (t : Int) : Int × Int := if mayR rs = true ∧ (0 ≤ t ∧ t < 4096) then (atL t 0 rs, 0) else (0, 1800)
set_option maxHeartbeats 8000000 in
set_option maxRecDepth 100000 in
theorem ratF_is (A : Option Addr) (c : Nat) (rs : List Rn) (t : Int) (w : World) (hr : Kd.C k82 w A rs.length rs) (hc : rs.length ≤ c) (hl : rs.length ≤ 281474976710656) :
    Calls Try.prog 33 #[.slice A rs.length c, .int .i64 t] w fun e w' => e = .returned (.tuple #[.int .i64 (ratF rs t).1, .int .i64 (ratF rs t).2]) ∧ Below w.heap.size w w' := by
  have HR := Lib.hid hr
  clear hr
  obtain ⟨F, hF⟩ : ∃ F, ratF rs t = F := ⟨_, rfl⟩
  rw [hF]
  have HF := Lib.hid hF
  clear hF
  have HM := Lib.hid (rmay_is A c rs w HR.out hc hl)
  cases hm : mayR rs
  case false =>
    rw [hm] at HM
    obtain rfl : F = (0, 1800) := by rw [← HF.out]; unfold ratF; rw [if_neg (by simp [hm])]
    clear hm
    go_enter Try.func33, Try.ntmps33
    go_wp2_with fail
    refine HM.out.mono ?_
    rintro e w1 ⟨rfl, hb1⟩
    have HB1 := Lib.hid hb1
    clear hb1
    go_wp2
    exact bodyPost_ret (v := .tuple #[.int .i64 0, .int .i64 1800]) (by simp [results, Try.results33, go_sem]) rfl ⟨rfl, HB1.out⟩
  rw [hm] at HM
  have HMR := Lib.hid hm
  clear hm
  by_cases h0 : 0 ≤ t
  case neg =>
    obtain rfl : F = (0, 1800) := by rw [← HF.out]; unfold ratF; rw [if_neg (by simp [h0])]
    have d0 : decide (t < 0) = true := by simp; omega
    go_enter Try.func33, Try.ntmps33
    go_wp2_with fail
    refine HM.out.mono ?_
    rintro e w1 ⟨rfl, hb1⟩
    have HB1 := Lib.hid hb1
    clear hb1
    go_wp2
    exact bodyPost_ret (v := .tuple #[.int .i64 0, .int .i64 1800]) (by simp [results, Try.results33, go_sem]) rfl ⟨rfl, HB1.out⟩
  have d0 : decide (t < 0) = false := by simp; omega
  by_cases h1 : t < 4096
  case neg =>
    obtain rfl : F = (0, 1800) := by rw [← HF.out]; unfold ratF; rw [if_neg (by simp [h1])]
    have d1 : decide (t ≥ 4096) = true := by simp; omega
    go_enter Try.func33, Try.ntmps33
    go_wp2_with fail
    refine HM.out.mono ?_
    rintro e w1 ⟨rfl, hb1⟩
    have HB1 := Lib.hid hb1
    clear hb1
    go_wp2
    exact bodyPost_ret (v := .tuple #[.int .i64 0, .int .i64 1800]) (by simp [results, Try.results33, go_sem]) rfl ⟨rfl, HB1.out⟩
  have d1 : decide (t ≥ 4096) = false := by simp; omega
  obtain rfl : F = (atL t 0 rs, 0) := by rw [← HF.out]; unfold ratF; rw [if_pos ⟨HMR.out, h0, h1⟩]
  clear HF
  generalize hx : atL t 0 rs = x
  have HX := Lib.hid hx
  clear hx
  go_enter Try.func33, Try.ntmps33
  go_wp2_with fail
  refine HM.out.mono ?_
  rintro e w1 ⟨rfl, hb1⟩
  have HB1 := Lib.hid hb1
  have HA : Hid (Calls Try.prog 55 #[.slice A rs.length c, .int .i64 t] w1 fun e w' => e = .returned (.int .i64 x) ∧ w' = w1) := Lib.hid (by rw [← HX.out]; exact rat_is A c rs t w1 (Kd.C_below HR.out hb1) hc hl)
  clear hb1
  go_wp2_with fail
  refine HA.out.mono ?_
  rintro e w2 ⟨rfl, rfl⟩
  go_wp2
  exact bodyPost_ret (v := .tuple #[.int .i64 x, .int .i64 0]) (by simp [results, Try.results33, go_sem]) rfl ⟨rfl, HB1.out⟩
end Go.Proofs.Ytbacdpagpdmkoaa.Man

/- The reference's Build of profiles: what it answers, and that the call answers so. -/
namespace Go.Proofs.Ytbacdpagpdmkoaa.Man
open Go.RowKit Go.Proofs.Ytbacdpagpdmkoaa.QT Go.Proofs.YtbacdpagpdmkoaaW.PrintWords Go.Proofs.YtbacdpagpdmkoaaW.PrintLast Go.Proofs.YtbacdpagpdmkoaaW.PrintMore

/-- n instants from k on. -/
def secs : Nat → Nat → List Int
  | _, 0 => []
  | k, n + 1 => (k : Int) :: secs (k + 1) n
def rbL (ws : List Wt) : List Rn → List Int → Option (List Rn)
  | out, [] => some out
  | out, t :: r => if 0 < t ∧ turnsF t ws = false then rbL ws out r else if (sumW t ws).2 = true then rbL ws (putF out t (sumW t ws).1) r else none
def rbO (o : Option (List Rn)) : List Rn × Int := match o with | some out => (out, 0) | none => ([], 1801)
def rbuildR (ws : List Wt) (n : Nat) : List Rn × Int := if ws.length ≤ 64 ∧ ws.all wOK = true then rbO (rbL ws [] (secs 0 n)) else ([], 1800)

def RBuildA (w : World) (ws : List Wt) (i : Value) (w' : World) : Prop := ∃ k : Nat, i = .int .i64 (k : Int) ∧ k ≤ ws.length ∧ ws.all wOK = (ws.drop k).all wOK ∧ Below w.heap.size w w'
def RBuildB (w : World) (ws : List Wt) (N : Nat) (v i : Value) (w' : World) : Prop := ∃ (k : Nat) (out : List Rn), i = .int .i64 (k : Int) ∧ k ≤ N ∧ out.length ≤ k ∧ rbL ws [] (secs 0 N) = rbL ws out (secs k (N - k)) ∧ Kd.R k82 82 w' w.heap.size (fun _ => True) v out ∧ Below w.heap.size w w'

/-- What Build and Change of the reference hand back. -/
def ResR (w : World) (base : Nat) (v : Value) (rs : List Rn) : Prop := Kd.R k82 82 w base (fun _ => True) v rs

set_option maxHeartbeats 8000000 in
set_option maxRecDepth 100000 in
theorem rbuild_is (A : Option Addr) (c : Nat) (ws : List Wt) (N : Nat) (hN : N = 4096) (w : World) (hr : Kd.C k73 w A ws.length ws) (hc : ws.length ≤ c) (hl : ws.length ≤ 281474976710656) :
    Calls Try.prog 42 #[.slice A ws.length c] w fun e w' => ∃ v, e = .returned (.tuple #[v, .int .i64 (rbuildR ws N).2]) ∧ ResR w' w.heap.size v (rbuildR ws N).1 ∧ Below w.heap.size w w' := by
  have HR := Lib.hid hr
  clear hr
  obtain ⟨F, hF⟩ : ∃ F, rbuildR ws N = F := ⟨_, rfl⟩
  rw [hF]
  have HF := Lib.hid hF
  clear hF
  have HN := Lib.hid hN
  clear hN
  by_cases h64 : ws.length ≤ 64
  case neg =>
    obtain rfl : F = ([], 1800) := by rw [← HF.out]; unfold rbuildR; rw [if_neg (fun h => h64 h.1)]
    have d0 : decide ((ws.length : Int) > 64) = true := decide_eq_true (by omega)
    go_enter Try.func42, Try.ntmps42
    go_wp2
    exact bodyPost_ret (v := .tuple #[.slice none 0 0, .int .i64 1800]) (by simp [results, Try.results42, go_sem]) rfl ⟨_, rfl, Kd.R_nil _ _ _ _ _, Below.refl _ _⟩
  have d0 : decide ((ws.length : Int) > 64) = false := decide_eq_false (by omega)
  have H64 := Lib.hid h64
  go_enter Try.func42, Try.ntmps42
  go_wp2_with fail
  go_loopw [4] (RBuildA w ws) (fun i _ => ws.length - (intOf i).toNat)
  case atStart => exact ⟨0, rfl, Nat.zero_le _, by rw [List.drop_zero], Below.refl _ _⟩
  case round =>
    obtain ⟨k, rfl, hk, ha, hb⟩ := hrel
    have HB := Lib.hid hb
    have HA := Lib.hid ha
    clear hb ha
    by_cases hlt : k < ws.length
    · have hd : decide ((k : Int) < (ws.length : Int)) = true := by simpa using hlt
      obtain ⟨ad, rfl, x0, x1, x2⟩ := at_T73 (Kd.C_below HR.out HB.out) (k : Int) (by omega) (by omega)
      rw [rdW_at ws k hlt, Int.toNat_natCast] at x0 x1 x2
      have HD : Hid (ws.drop k = ws[k] :: ws.drop (k + 1)) := Lib.hid (List.drop_eq_getElem_cons hlt)
      generalize ws[k] = x at x0 x1 x2 HD
      obtain ⟨hv, hhv⟩ : ∃ hv, wOK x = hv := ⟨_, rfl⟩
      have HV := Lib.hid hhv
      have HWM : Hid (∀ W, Calls Try.prog 62 #[.agg #[.int .i64 x.f0.f0, .int .i64 x.f0.f1, .int .i64 x.f1]] W fun e w' => e = .returned (.bool hv) ∧ Below W.heap.size W w') := Lib.hid (fun W => by rw [← hhv]; exact rwmay_is _ _ _ W)
      clear hhv
      go_wp2_with fail
      refine (HWM.out _).mono ?_
      rintro e w1 ⟨rfl, hb1⟩
      have HB1 := Lib.hid (below_then HB.out HB.out.size hb1)
      clear hb1 x0 x1 x2
      cases hv with
      | false =>
        have HFF : Hid (F = ([], 1800)) := Lib.hid (by
          rw [← HF.out]; unfold rbuildR
          rw [if_neg (fun h => by have := HA.out; rw [h.2, HD.out, List.all_cons, HV.out] at this; simp at this)])
        go_wp2
        exact bodyPost_ret (v := .tuple #[.slice none 0 0, .int .i64 1800]) (by simp [results, Try.results42, go_sem]) rfl ⟨.slice none 0 0, by rw [HFF.out], by rw [HFF.out]; exact Kd.R_nil _ _ _ _ _, HB1.out⟩
      | true =>
        have HAF : Hid (ws.all wOK = (ws.drop (k + 1)).all wOK) := Lib.hid (by rw [HA.out, HD.out, List.all_cons, HV.out, Bool.true_and])
        go_wp2
        go_roundw
        case rel => exact ⟨k + 1, by go_num, by omega, HAF.out, HB1.out⟩
        case measure => simp [intOf]; omega
    · have hd : decide ((k : Int) < (ws.length : Int)) = false := by simpa using hlt
      have HFA : Hid (F = rbO (rbL ws [] (secs 0 N))) := Lib.hid (by
        rw [← HF.out]; unfold rbuildR
        rw [if_pos ⟨H64.out, by rw [HA.out, List.drop_of_length_le (by omega)]; rfl⟩])
      clear hk
      go_wp2_with fail
      go_loopw [5, 6] (RBuildB w ws N) (fun _ i _ => N - (intOf i).toNat)
      case atStart => exact ⟨0, [], rfl, Nat.zero_le _, Nat.le_refl _, rfl, Kd.R_nil _ _ _ _ _, HB.out⟩
      case round =>
        obtain ⟨j, out, rfl, hj, hol, hbl, ho, hb⟩ := hrel
        have HV := Lib.hid ho
        have HBB := Lib.hid hb
        have HOL := Lib.hid hol
        have HBL := Lib.hid hbl
        clear ho hb hol hbl
        have hN := HN.out
        have HCW := Lib.hid (Kd.C_below HR.out HBB.out)
        by_cases hlj : j < N
        · have hd : decide ((j : Int) < 4096) = true := decide_eq_true (by omega)
          have HSC : Hid (secs j (N - j) = (j : Int) :: secs (j + 1) (N - (j + 1))) := Lib.hid (by
            obtain ⟨m, hm⟩ : ∃ m, N - j = m + 1 := ⟨N - j - 1, by omega⟩
            rw [hm, secs, show N - (j + 1) = m by omega])
          have hjb : (j : Int) < 4096 := by omega
          have HJ : Hid (j < N) := Lib.hid hlj
          have HTN := Lib.hid (turns_is A c ws (j : Int) wr HCW.out hc hl)
          obtain ⟨tn, htn⟩ : ∃ tn, turnsF (j : Int) ws = tn := ⟨_, rfl⟩
          rw [htn] at HTN
          have HTF := Lib.hid htn
          clear htn hN
          have HSW := Lib.hid (rsumw_is A c ws (j : Int) wr HCW.out hc (by have := H64.out; omega))
          obtain ⟨ls, lo, hls⟩ : ∃ ls lo, sumW (j : Int) ws = (ls, lo) := ⟨_, _, rfl⟩
          rw [hls] at HSW
          simp only at HSW
          have HLS2 := Lib.hid hls
          clear hls
          by_cases hj0 : 0 < j
          · have d1 : decide ((j : Int) > 0) = true := decide_eq_true (by omega)
            cases tn with
            | false =>
              have HBN : Hid (rbL ws [] (secs 0 N) = rbL ws out (secs (j + 1) (N - (j + 1)))) := Lib.hid (by rw [HBL.out, HSC.out, rbL, if_pos ⟨by omega, HTF.out⟩])
              go_wp2_with fail
              refine HTN.out.mono ?_
              rintro e w7 ⟨rfl, rfl⟩
              go_wp2
              go_roundw
              case rel => exact ⟨j + 1, out, by go_num, HJ.out, by have := HOL.out; omega, HBN.out, HV.out, HBB.out⟩
              case measure => have := HJ.out; simp [intOf]; omega
            | true =>
              have HNN : Hid (¬ (0 < (j : Int) ∧ turnsF (j : Int) ws = false)) := Lib.hid (fun h => by rw [HTF.out] at h; exact absurd h.2 (by decide))
              go_wp2_with fail
              refine HTN.out.mono ?_
              rintro e w7 ⟨rfl, rfl⟩
              go_wp2_with fail
              refine HSW.out.mono ?_
              rintro e w8 ⟨rfl, hb8⟩
              have HB8 := Lib.hid (below_then HBB.out HBB.out.size hb8)
              have HV8 := Lib.hid (Kd.R_below HV.out hb8)
              clear hb8
              cases lo with
              | false =>
                have HFF : Hid (F = ([], 1801)) := Lib.hid (by
                  rw [HFA.out, HBL.out, HSC.out, rbL, if_neg HNN.out, if_neg (by rw [HLS2.out]; exact Bool.false_ne_true)]
                  rfl)
                go_wp2
                exact bodyPost_ret (v := .tuple #[.slice none 0 0, .int .i64 1801]) (by simp [results, Try.results42, go_sem]) rfl ⟨.slice none 0 0, by rw [HFF.out], by rw [HFF.out]; exact Kd.R_nil _ _ _ _ _, HB8.out⟩
              | true =>
                have HBN : Hid (rbL ws [] (secs 0 N) = rbL ws (putF out (j : Int) ls) (secs (j + 1) (N - (j + 1)))) := Lib.hid (by rw [HBL.out, HSC.out, rbL, if_neg HNN.out, HLS2.out, if_pos rfl])
                have HPU := Lib.hid (put_is _ w.heap.size out (j : Int) ls w8 HV8.out HB8.out.size (by have := HOL.out; omega))
                go_wp2_with fail
                refine HPU.out.mono ?_
                rintro e w9 ⟨v9, rfl, hv9, hb9⟩
                have HV9 := Lib.hid hv9
                have HB9 := Lib.hid (HB8.out.trans hb9)
                clear hv9 hb9
                go_wp2
                go_roundw
                case rel => exact ⟨j + 1, putF out (j : Int) ls, by go_num, HJ.out, by have := HOL.out; have := putF_le out (j : Int) ls; omega, HBN.out, HV9.out, HB9.out⟩
                case measure => have := HJ.out; simp [intOf]; omega
          · have d1 : decide ((j : Int) > 0) = false := decide_eq_false (by omega)
            have HNN : Hid (¬ (0 < (j : Int) ∧ turnsF (j : Int) ws = false)) := Lib.hid (fun h => by omega)
            go_wp2_with fail
            refine HSW.out.mono ?_
            rintro e w8 ⟨rfl, hb8⟩
            have HB8 := Lib.hid (below_then HBB.out HBB.out.size hb8)
            have HV8 := Lib.hid (Kd.R_below HV.out hb8)
            clear hb8
            cases lo with
            | false =>
              have HFF : Hid (F = ([], 1801)) := Lib.hid (by
                rw [HFA.out, HBL.out, HSC.out, rbL, if_neg HNN.out, if_neg (by rw [HLS2.out]; exact Bool.false_ne_true)]
                rfl)
              go_wp2
              exact bodyPost_ret (v := .tuple #[.slice none 0 0, .int .i64 1801]) (by simp [results, Try.results42, go_sem]) rfl ⟨.slice none 0 0, by rw [HFF.out], by rw [HFF.out]; exact Kd.R_nil _ _ _ _ _, HB8.out⟩
            | true =>
              have HBN : Hid (rbL ws [] (secs 0 N) = rbL ws (putF out (j : Int) ls) (secs (j + 1) (N - (j + 1)))) := Lib.hid (by rw [HBL.out, HSC.out, rbL, if_neg HNN.out, HLS2.out, if_pos rfl])
              have HPU := Lib.hid (put_is _ w.heap.size out (j : Int) ls w8 HV8.out HB8.out.size (by have := HOL.out; omega))
              go_wp2_with fail
              refine HPU.out.mono ?_
              rintro e w9 ⟨v9, rfl, hv9, hb9⟩
              have HV9 := Lib.hid hv9
              have HB9 := Lib.hid (HB8.out.trans hb9)
              clear hv9 hb9
              go_wp2
              go_roundw
              case rel => exact ⟨j + 1, putF out (j : Int) ls, by go_num, HJ.out, by have := HOL.out; have := putF_le out (j : Int) ls; omega, HBN.out, HV9.out, HB9.out⟩
              case measure => have := HJ.out; simp [intOf]; omega
        · have hd : decide ((j : Int) < 4096) = false := decide_eq_false (by omega)
          have HFF : Hid (F = (out, 0)) := Lib.hid (by rw [HFA.out, HBL.out, show N - j = 0 by omega, secs, rbL]; rfl)
          clear hN
          go_wp2
          exact bodyPost_ret (v := .tuple #[u5, .int .i64 0]) (by simp [results, Try.results42, go_sem]) rfl ⟨u5, by rw [HFF.out], by rw [HFF.out]; exact HV.out, HBB.out⟩
end Go.Proofs.Ytbacdpagpdmkoaa.Man

/- The reference's Most of profiles: what it answers, and that the call answers so. -/
namespace Go.Proofs.Ytbacdpagpdmkoaa.Man
open Go.RowKit Go.Proofs.Ytbacdpagpdmkoaa.QT Go.Proofs.YtbacdpagpdmkoaaW.PrintWords Go.Proofs.YtbacdpagpdmkoaaW.PrintLast Go.Proofs.YtbacdpagpdmkoaaW.PrintMore

def stepR (a b : Int) (p : Int × Int) (r : Rn) : Int × Int := if hasF a b r.f0 = true ∧ p.1 < r.f1 then (r.f1, r.f0) else p
def rtopM (a b : Int) (p : Int × Int) (rs : List Rn) : Int × Int := rs.foldl (stepR a b) p
def rmostF (rs : List Rn) (a b : Int) : Int × Int × Int := if mayR rs = true ∧ mayF a b = true then ((rtopM a b (atL a 0 rs, a) rs).1, (rtopM a b (atL a 0 rs, a) rs).2, 0) else (0, 0, 1800)
def RMostAt (w : World) (a b : Int) (p0 : Int × Int) (rs : List Rn) (l t i : Value) (w' : World) : Prop := ∃ (k : Nat) (p : Int × Int), i = .int .i64 (k : Int) ∧ l = .int .i64 p.1 ∧ t = .int .i64 p.2 ∧ k ≤ rs.length ∧ rtopM a b p0 rs = rtopM a b p (rs.drop k) ∧ Below w.heap.size w w' ∧ w'.heap[w.heap.size]? = some (.cells #[.int .i64 a, .int .i64 b] 23 (0, 0))

set_option maxHeartbeats 8000000 in
set_option maxRecDepth 100000 in
theorem rmost_is (A : Option Addr) (c : Nat) (rs : List Rn) (a b : Int) (w : World) (hr : Kd.C k82 w A rs.length rs) (hc : rs.length ≤ c) (hl : rs.length ≤ 281474976710656) :
    Calls Try.prog 35 #[.slice A rs.length c, .agg #[.int .i64 a, .int .i64 b]] w fun e w' => e = .returned (.tuple #[.int .i64 (rmostF rs a b).1, .int .i64 (rmostF rs a b).2.1, .int .i64 (rmostF rs a b).2.2]) ∧ Below w.heap.size w w' := by
  have HR := Lib.hid hr
  clear hr
  obtain ⟨F, hF⟩ : ∃ F, rmostF rs a b = F := ⟨_, rfl⟩
  rw [hF]
  have HF := Lib.hid hF
  clear hF
  have HB0 : Hid (Below w.heap.size w (w.alloc (.cells #[.int .i64 a, .int .i64 b] 23))) := Lib.hid ((Below.refl _ _).alloc (Nat.le_refl _) _)
  have HM := Lib.hid (rmay_is A c rs _ (Kd.C_below HR.out HB0.out) hc hl)
  cases hm : mayR rs
  case false =>
    rw [hm] at HM
    obtain rfl : F = (0, 0, 1800) := by rw [← HF.out]; unfold rmostF; rw [if_neg (by simp [hm])]
    clear hm
    go_enter Try.func35, Try.ntmps35
    go_wp2_with fail
    refine HM.out.mono ?_
    rintro e w1 ⟨rfl, hb1⟩
    have HB1 := Lib.hid (below_then HB0.out HB0.out.size hb1)
    clear hb1
    go_wp2
    exact bodyPost_ret (v := .tuple #[.int .i64 0, .int .i64 0, .int .i64 1800]) (by simp [results, Try.results35, go_sem]) rfl ⟨rfl, HB1.out⟩
  rw [hm] at HM
  have HMR := Lib.hid hm
  clear hm
  cases hs : mayF a b
  case false =>
    obtain rfl : F = (0, 0, 1800) := by rw [← HF.out]; unfold rmostF; rw [if_neg (by simp [hs])]
    have HS := Lib.hid hs
    clear hs
    go_enter Try.func35, Try.ntmps35
    go_wp2_with fail
    refine HM.out.mono ?_
    rintro e w1 ⟨rfl, hb1⟩
    have HB1 := Lib.hid (below_then HB0.out HB0.out.size hb1)
    have hblk := blk_below (blk_new w (.cells #[.int .i64 a, .int .i64 b] 23 (0, 0))) hb1
    have c0 := blk_cell hblk 0
    have c1 := blk_cell hblk 1
    simp at c0 c1
    clear hb1 hblk
    go_wp2_with fail
    refine (rmayS_is a b _).mono ?_
    rintro e w2 ⟨rfl, hb2⟩
    have HB2 := Lib.hid (below_then HB1.out HB1.out.size hb2)
    clear hb2
    rw [HS.out]
    go_wp2
    exact bodyPost_ret (v := .tuple #[.int .i64 0, .int .i64 0, .int .i64 1800]) (by simp [results, Try.results35, go_sem]) rfl ⟨rfl, HB2.out⟩
  have HS := Lib.hid hs
  have HFF : Hid (F = ((rtopM a b (atL a 0 rs, a) rs).1, (rtopM a b (atL a 0 rs, a) rs).2, 0)) := Lib.hid (by rw [← HF.out]; unfold rmostF; rw [if_pos ⟨HMR.out, hs⟩])
  clear hs HF
  go_enter Try.func35, Try.ntmps35
  go_wp2_with fail
  refine HM.out.mono ?_
  rintro e w1 ⟨rfl, hb1⟩
  have HB1 := Lib.hid (below_then HB0.out HB0.out.size hb1)
  have hblk := blk_below (blk_new w (.cells #[.int .i64 a, .int .i64 b] 23 (0, 0))) hb1
  have HK1 := Lib.hid hblk
  have c0 := blk_cell hblk 0
  have c1 := blk_cell hblk 1
  simp at c0 c1
  clear hb1 hblk
  go_wp2_with fail
  refine (rmayS_is a b _).mono ?_
  rintro e w2 ⟨rfl, hb2⟩
  have HB2 := Lib.hid (below_then HB1.out HB1.out.size hb2)
  have HK2 := Lib.hid (blk_below HK1.out hb2)
  clear hb2 c0 c1
  rw [HS.out]
  have c0 := blk_cell HK2.out 0
  simp at c0
  have c0d : w2.drew.cell? ⟨w.heap.size, 0, none⟩ = some (.int .i64 a) := c0
  have HAT := Lib.hid (rat_is A c rs a w2.drew (Kd.C_below (Kd.C_below HR.out HB2.out) (below_drew (Below.refl _ _))) hc hl)
  go_wp2_with fail
  go_region_held3 (fun W => W.cell? ⟨w.heap.size, 0, none⟩ = some (.int .i64 a))
    (first | exact c0d)
    (first
      | (go_at_call 55; refine HAT.out.mono ?_; rintro e w3 ⟨rfl, rfl⟩))
  have HB3 : Hid (Below w.heap.size w w2.drew) := Lib.hid (below_drew HB2.out)
  have HK3 : Hid (w2.drew.heap[w.heap.size]? = some (.cells #[.int .i64 a, .int .i64 b] 23 (0, 0))) := HK2
  clear c0 c0d HAT HB2 HK2
  generalize w2.drew = w3 at HB3 HK3 ⊢
  go_wp2_with fail
  go_loopw [7, 8, 9] (RMostAt w a b (atL a 0 rs, a) rs) (fun _ _ i _ => rs.length - (intOf i).toNat)
  case atStart => exact ⟨0, (atL a 0 rs, a), rfl, rfl, rfl, Nat.zero_le _, rfl, HB3.out, HK3.out⟩
  case round =>
    obtain ⟨k, p, rfl, rfl, rfl, hk, ht, hb, hx⟩ := hrel
    have HT := Lib.hid ht
    have HB := Lib.hid hb
    have HX := Lib.hid hx
    clear ht hb hx HB3 HK3
    by_cases hlt : k < rs.length
    · obtain ⟨ad, rfl, x0, x1⟩ := at_T82 (Kd.C_below HR.out HB.out) (k : Int) (by omega) (by omega)
      have HD : Hid (rs.drop k = rs[k] :: rs.drop (k + 1)) := Lib.hid (List.drop_eq_getElem_cons hlt)
      rw [rdR_at rs k hlt, Int.toNat_natCast] at x0 x1
      generalize rs[k] = x at x0 x1 HD
      have hd : decide ((k : Int) < (rs.length : Int)) = true := by simpa using hlt
      have c0 := blk_cell HX.out 0
      have c1 := blk_cell HX.out 1
      simp at c0 c1
      have hk0 : (0 : Int) ≤ (k : Int) := by omega
      have hkl : (k : Int) < (rs.length : Int) := by omega
      have y0 := Later.cell x0
      have y1 := Later.cell x1
      have z0 := Later.cell c0
      have z1 := Later.cell c1
      obtain ⟨hv, hhv⟩ : ∃ hv, hasF a b x.f0 = hv := ⟨_, rfl⟩
      have HH : Hid (∀ W, Calls Try.prog 20 #[.agg #[.int .i64 a, .int .i64 b], .int .i64 x.f0] W fun e w' => e = .returned (.bool hv) ∧ Below W.heap.size W w') := Lib.hid (fun W => by rw [← hhv]; exact rhas_is _ _ _ W)
      have HV := Lib.hid hhv
      clear hhv
      clear x0 x1 c0 c1
      cases hv with
      | false =>
        have HST : Hid (rtopM a b (atL a 0 rs, a) rs = rtopM a b p (rs.drop (k + 1))) := Lib.hid (by rw [HT.out, HD.out, rtopM, List.foldl_cons, stepR, if_neg (fun h => by rw [HV.out] at h; exact absurd h.1 (by decide))]; rfl)
        go_wp2_with fail
        refine wp_region_later (by kernel_rfl) (by kernel_rfl) ?_
        repeat (go_big_quiet_step ((go_at_call 20; exact later_of (HH.out _))))
        refine wpQuiet_nil ?_
        rintro _ ⟨W, rfl⟩
        have HB5 := Lib.hid (below_then HB.out HB.out.size W.below)
        have HX5 := Lib.hid (blk_below HX.out W.below)
        have w0 := y0 W
        have w1 := y1 W
        clear w0 w1 y0 y1 z0 z1
        go_wp2
        go_roundw
        case rel => exact ⟨k + 1, p, by go_num, rfl, rfl, by omega, HST.out, HB5.out, HX5.out⟩
        case measure => simp [intOf]; omega
      | true =>
        by_cases hgt : p.1 < x.f1
        · have dg : decide (x.f1 > p.1) = true := decide_eq_true hgt
          have HST : Hid (rtopM a b (atL a 0 rs, a) rs = rtopM a b (x.f1, x.f0) (rs.drop (k + 1))) := Lib.hid (by rw [HT.out, HD.out, rtopM, List.foldl_cons, stepR, if_pos ⟨HV.out, hgt⟩]; rfl)
          go_wp2_with fail
          refine wp_region_later (by kernel_rfl) (by kernel_rfl) ?_
          repeat (go_big_quiet_step ((go_at_call 20; exact later_of (HH.out _))))
          refine wpQuiet_nil ?_
          rintro _ ⟨W, rfl⟩
          have HB5 := Lib.hid (below_then HB.out HB.out.size W.below)
          have HX5 := Lib.hid (blk_below HX.out W.below)
          have w0 := y0 W
          have w1 := y1 W
          clear y0 y1 z0 z1
          go_wp2_with fail
          go_quiet (fail)
          go_wp2
          go_roundw
          case rel => exact ⟨k + 1, (x.f1, x.f0), by go_num, rfl, rfl, by omega, HST.out, pw_below_drewN HB5.out _, HX5.out⟩
          case measure => simp [intOf]; omega
        · have dg : decide (x.f1 > p.1) = false := decide_eq_false hgt
          have HST : Hid (rtopM a b (atL a 0 rs, a) rs = rtopM a b p (rs.drop (k + 1))) := Lib.hid (by rw [HT.out, HD.out, rtopM, List.foldl_cons, stepR, if_neg (fun h => hgt h.2)]; rfl)
          go_wp2_with fail
          refine wp_region_later (by kernel_rfl) (by kernel_rfl) ?_
          repeat (go_big_quiet_step ((go_at_call 20; exact later_of (HH.out _))))
          refine wpQuiet_nil ?_
          rintro _ ⟨W, rfl⟩
          have HB5 := Lib.hid (below_then HB.out HB.out.size W.below)
          have HX5 := Lib.hid (blk_below HX.out W.below)
          have w0 := y0 W
          have w1 := y1 W
          clear w0 w1 y0 y1 z0 z1
          go_wp2
          go_roundw
          case rel => exact ⟨k + 1, p, by go_num, rfl, rfl, by omega, HST.out, HB5.out, HX5.out⟩
          case measure => simp [intOf]; omega
    · have hd : decide ((k : Int) < (rs.length : Int)) = false := by simpa using hlt
      have HF2 : Hid (F = (p.1, p.2, 0)) := Lib.hid (by rw [HFF.out, HT.out, List.drop_of_length_le (by omega)]; rfl)
      go_wp2
      exact bodyPost_ret (v := .tuple #[.int .i64 p.1, .int .i64 p.2, .int .i64 0]) (by simp [results, Try.results35, go_sem]) rfl ⟨by rw [HF2.out], HB.out⟩
end Go.Proofs.Ytbacdpagpdmkoaa.Man

/- The reference's Change of profiles: what it answers, and that the call answers so. -/
namespace Go.Proofs.Ytbacdpagpdmkoaa.Man
open Go.RowKit Go.Proofs.Ytbacdpagpdmkoaa.QT Go.Proofs.YtbacdpagpdmkoaaW.PrintWords Go.Proofs.YtbacdpagpdmkoaaW.PrintLast Go.Proofs.YtbacdpagpdmkoaaW.PrintMore

def chL (rs : List Rn) (a b l : Int) (more : Bool) : List Rn → List Int → List Rn × Int
  | out, [] => (out, 0)
  | out, t :: r =>
    if startsF a b rs t = false then chL rs a b l more out r
    else if hasF a b t = true then
      (if more = true then (if 4611686018427387904 - l < atL t 0 rs then ([], 1801) else chL rs a b l more (putF out t (atL t 0 rs + l)) r)
       else (if atL t 0 rs < l then ([], 1802) else chL rs a b l more (putF out t (atL t 0 rs - l)) r))
    else chL rs a b l more (putF out t (atL t 0 rs)) r
def rchangeR (rs : List Rn) (a b l : Int) (more : Bool) (n : Nat) : List Rn × Int := if mayR rs = true ∧ wmayF a b l = true then chL rs a b l more [] (secs 0 n) else ([], 1800)
theorem atL_rate (t : Int) : ∀ (rs : List Rn) (acc : Int), rateF acc = true → (∀ x ∈ rs, rateF x.f1 = true) → rateF (atL t acc rs) = true
  | [], acc, h, _ => h
  | x :: r, acc, h, hr => by
    rw [atL]
    refine atL_rate t r _ ?_ (fun y hy => hr y (List.mem_cons_of_mem _ hy))
    split
    · exact hr x List.mem_cons_self
    · exact h
theorem rate_bounds {x : Int} (h : rateF x = true) : 0 ≤ x ∧ x ≤ 4611686018427387904 := by unfold rateF at h; simpa using h

def RChAt (w : World) (rs : List Rn) (a b l : Int) (more : Bool) (N : Nat) (v i : Value) (w' : World) : Prop := ∃ (k : Nat) (out : List Rn), i = .int .i64 (k : Int) ∧ k ≤ N ∧ out.length ≤ k ∧ chL rs a b l more [] (secs 0 N) = chL rs a b l more out (secs k (N - k)) ∧ Kd.R k82 82 w' (w.heap.size + 1) (fun _ => True) v out ∧ Below (w.heap.size + 1) (w.alloc (.cells #[.int .i64 a, .int .i64 b, .int .i64 l] 73)) w'

set_option maxHeartbeats 16000000 in
set_option maxRecDepth 100000 in
theorem rchange_is (A : Option Addr) (c : Nat) (rs : List Rn) (a b l : Int) (more : Bool) (N : Nat) (hN : N = 4096) (w : World) (hr : Kd.C k82 w A rs.length rs) (hc : rs.length ≤ c) (hl : rs.length ≤ 281474976710656) :
    Calls Try.prog 46 #[.slice A rs.length c, .agg #[.int .i64 a, .int .i64 b, .int .i64 l], .bool more] w fun e w' => ∃ v, e = .returned (.tuple #[v, .int .i64 (rchangeR rs a b l more N).2]) ∧ ResR w' w.heap.size v (rchangeR rs a b l more N).1 ∧ Below w.heap.size w w' := by
  have HR := Lib.hid hr
  have HB0 : Hid (Below w.heap.size w (w.alloc (.cells #[.int .i64 a, .int .i64 b, .int .i64 l] 73))) := Lib.hid ((Below.refl _ _).alloc (Nat.le_refl _) _)
  have HBX : Hid (Box (w.alloc (.cells #[.int .i64 a, .int .i64 b, .int .i64 l] 73)) w.heap.size a b l) := Lib.hid (blk_new _ _)
  have HM := Lib.hid (rmay_is A c rs _ (Kd.C_below HR.out HB0.out) hc hl)
  clear hr
  obtain ⟨F, hF⟩ : ∃ F, rchangeR rs a b l more N = F := ⟨_, rfl⟩
  rw [hF]
  have HF := Lib.hid hF
  have HN := Lib.hid hN
  clear hF hN
  cases hm : mayR rs
  case false =>
    rw [hm] at HM
    obtain rfl : F = ([], 1800) := by rw [← HF.out]; unfold rchangeR; rw [if_neg (by simp [hm])]
    clear hm
    go_enter Try.func46, Try.ntmps46
    go_wp2_with fail
    refine HM.out.mono ?_
    rintro e w1 ⟨rfl, hb1⟩
    have HB1 := Lib.hid (below_then HB0.out HB0.out.size hb1)
    clear hb1
    go_wp2
    exact bodyPost_ret (v := .tuple #[.slice none 0 0, .int .i64 1800]) (by simp [results, Try.results46, go_sem]) rfl ⟨_, rfl, Kd.R_nil _ _ _ _ _, HB1.out⟩
  rw [hm] at HM
  have HMR := Lib.hid hm
  clear hm
  cases hwm : wmayF a b l
  case false =>
    obtain rfl : F = ([], 1800) := by rw [← HF.out]; unfold rchangeR; rw [if_neg (by simp [hwm])]
    have HW := Lib.hid hwm
    clear hwm
    go_enter Try.func46, Try.ntmps46
    go_wp2_with fail
    refine HM.out.mono ?_
    rintro e w1 ⟨rfl, hb1⟩
    have HB1 := Lib.hid (below_then HB0.out HB0.out.size hb1)
    have hx := blk_below HBX.out hb1
    have c0 := blk_cell hx 0
    have c1 := blk_cell hx 1
    have c2 := blk_cell hx 2
    simp at c0 c1 c2
    clear hb1 hx
    go_wp2_with fail
    refine (rwmay_is a b l _).mono ?_
    rintro e w2 ⟨rfl, hb2⟩
    have HB2 := Lib.hid (below_then HB1.out HB1.out.size hb2)
    clear hb2
    rw [HW.out]
    go_wp2
    exact bodyPost_ret (v := .tuple #[.slice none 0 0, .int .i64 1800]) (by simp [results, Try.results46, go_sem]) rfl ⟨_, rfl, Kd.R_nil _ _ _ _ _, HB2.out⟩
  have HW := Lib.hid hwm
  have hlr : rateF l = true := by unfold wmayF at hwm; simp only [Bool.and_eq_true] at hwm; exact hwm.2
  have HLR := Lib.hid (rate_bounds hlr)
  have HRT : Hid (∀ t, rateF (atL t 0 rs) = true) := Lib.hid (fun t => atL_rate t rs 0 rfl (fun x hx => (may_rates HMR.out x hx).2))
  have HFA : Hid (F = chL rs a b l more [] (secs 0 N)) := Lib.hid (by rw [← HF.out]; unfold rchangeR; rw [if_pos ⟨HMR.out, hwm⟩])
  clear hwm hlr HF
  go_enter Try.func46, Try.ntmps46
  go_wp2_with fail
  refine HM.out.mono ?_
  rintro e w1 ⟨rfl, hb1⟩
  have HC1 := Lib.hid (hb1.mono (show w.heap.size + 1 ≤ _ by simp))
  have hx := blk_below HBX.out hb1
  have HX1 := Lib.hid hx
  have c0 := blk_cell hx 0
  have c1 := blk_cell hx 1
  have c2 := blk_cell hx 2
  simp at c0 c1 c2
  clear hb1 hx
  go_wp2_with fail
  refine (rwmay_is a b l _).mono ?_
  rintro e w2 ⟨rfl, hb2⟩
  have HC2 := Lib.hid (HC1.out.trans (hb2.mono (by have := HC1.out.size; simpa using this)))
  clear hb2 c0 c1 c2 HX1
  rw [HW.out]
  go_wp2_with fail
  go_loopw [8, 9] (RChAt w rs a b l more N) (fun _ i _ => N - (intOf i).toNat)
  case atStart => exact ⟨0, [], rfl, Nat.zero_le _, Nat.le_refl _, rfl, Kd.R_nil _ _ _ _ _, HC2.out⟩
  case round =>
    obtain ⟨j, out, rfl, hj, hol, hbl, ho, hb⟩ := hrel
    have HV := Lib.hid ho
    have HBB := Lib.hid hb
    have HOL := Lib.hid hol
    have HBL := Lib.hid hbl
    have HSZ : Hid (w.heap.size + 1 ≤ wr.heap.size) := Lib.hid (by have := hb.size; simpa using this)
    have HX : Hid (Box wr w.heap.size a b l) := Lib.hid ((hb.block _ (by omega)).trans HBX.out)
    have HBW : Hid (Below w.heap.size w wr) := Lib.hid (HB0.out.trans (hb.mono (by omega)))
    clear ho hb hol hbl HC1 HC2
    have hN := HN.out
    by_cases hlj : j < N
    · have hd : decide ((j : Int) < 4096) = true := decide_eq_true (by omega)
      have HSC : Hid (secs j (N - j) = (j : Int) :: secs (j + 1) (N - (j + 1))) := Lib.hid (by
        obtain ⟨m, hm⟩ : ∃ m, N - j = m + 1 := ⟨N - j - 1, by omega⟩
        rw [hm, secs, show N - (j + 1) = m by omega])
      have hjb : (j : Int) < 4096 := by omega
      have HJ : Hid (j < N) := Lib.hid hlj
      have HST := Lib.hid (starts_is A c rs a b l (j : Int) wr (Kd.C_below HR.out HBW.out) hc hl)
      obtain ⟨st, hst⟩ : ∃ st, startsF a b rs (j : Int) = st := ⟨_, rfl⟩
      rw [hst] at HST
      have HTF := Lib.hid hst
      clear hst hN
      have c0 := blk_cell HX.out 0
      have c1 := blk_cell HX.out 1
      have c2 := blk_cell HX.out 2
      simp at c0 c1 c2
      cases st with
      | false =>
        have HBN : Hid (chL rs a b l more [] (secs 0 N) = chL rs a b l more out (secs (j + 1) (N - (j + 1)))) := Lib.hid (by rw [HBL.out, HSC.out, chL, if_pos HTF.out])
        go_wp2_with fail
        refine HST.out.mono ?_
        rintro e w3 ⟨rfl, hb3⟩
        have HB3 := Lib.hid (HBB.out.trans (hb3.mono HSZ.out))
        have HV3 := Lib.hid (Kd.R_below HV.out hb3)
        clear hb3 c0 c1 c2
        go_wp2
        go_roundw
        case rel => exact ⟨j + 1, out, by go_num, HJ.out, by have := HOL.out; omega, HBN.out, HV3.out, HB3.out⟩
        case measure => have := HJ.out; simp [intOf]; omega
      | true =>
        have HTN : Hid (¬ startsF a b rs (j : Int) = false) := Lib.hid (by rw [HTF.out]; decide)
        go_wp2_with fail
        refine HST.out.mono ?_
        rintro e w3 ⟨rfl, hb3⟩
        have HB3 := Lib.hid (HBB.out.trans (hb3.mono HSZ.out))
        have HV3 := Lib.hid (Kd.R_below HV.out hb3)
        have HX3 : Hid (Box w3 w.heap.size a b l) := Lib.hid (blk_below HX.out hb3)
        have HSZ3 : Hid (w.heap.size + 1 ≤ w3.heap.size) := Lib.hid (by have := hb3.size; have := HSZ.out; omega)
        have HBW3 : Hid (Below w.heap.size w w3) := Lib.hid (below_then HBW.out HBW.out.size hb3)
        clear hb3 c0 c1 c2 HST
        have HAT := Lib.hid (rat_is A c rs (j : Int) w3 (Kd.C_below HR.out HBW3.out) hc hl)
        have HRB := Lib.hid (rate_bounds (HRT.out (j : Int)))
        obtain ⟨x, hx⟩ : ∃ x, atL (j : Int) 0 rs = x := ⟨_, rfl⟩
        rw [hx] at HAT HRB
        have HXE := Lib.hid hx
        clear hx
        go_wp2_with fail
        refine HAT.out.mono ?_
        rintro e w4 ⟨rfl, rfl⟩
        have c0 := blk_cell HX3.out 0
        have c1 := blk_cell HX3.out 1
        simp at c0 c1
        obtain ⟨hv, hhv⟩ : ∃ hv, hasF a b (j : Int) = hv := ⟨_, rfl⟩
        have HH : Hid (∀ W, Calls Try.prog 20 #[.agg #[.int .i64 a, .int .i64 b], .int .i64 (j : Int)] W fun e w' => e = .returned (.bool hv) ∧ Below W.heap.size W w') := Lib.hid (fun W => by rw [← hhv]; exact rhas_is _ _ _ W)
        have HHV := Lib.hid hhv
        clear hhv
        go_wp2_with fail
        refine (HH.out _).mono ?_
        rintro e w5 ⟨rfl, hb5⟩
        have HB5 := Lib.hid (HB3.out.trans (hb5.mono HSZ3.out))
        have HV5 := Lib.hid (Kd.R_below HV3.out hb5)
        have HX5 : Hid (Box w5 w.heap.size a b l) := Lib.hid (blk_below HX3.out hb5)
        have HSZ5 : Hid (w.heap.size + 1 ≤ w5.heap.size) := Lib.hid (by have := hb5.size; have := HSZ3.out; omega)
        clear hb5 c0 c1
        have hxr := HRB.out
        have hlr := HLR.out
        cases hv with
        | false =>
          have HBN : Hid (chL rs a b l more [] (secs 0 N) = chL rs a b l more (putF out (j : Int) (x)) (secs (j + 1) (N - (j + 1)))) := Lib.hid (by rw [HBL.out, HSC.out, chL, if_neg HTN.out, if_neg (by rw [HHV.out]; exact Bool.false_ne_true), HXE.out])
          have HPU := Lib.hid (put_is _ (w.heap.size + 1) out (j : Int) (x) w5 HV5.out HSZ5.out (by have := HOL.out; omega))
          clear HXE
          go_wp2_with fail
          refine HPU.out.mono ?_
          rintro e w9 ⟨v9, rfl, hv9, hb9⟩
          have HV9 := Lib.hid hv9
          have HB9 := Lib.hid (HB5.out.trans hb9)
          clear hv9 hb9
          go_wp2
          go_roundw
          case rel => exact ⟨j + 1, putF out (j : Int) (x), by go_num, HJ.out, by have := HOL.out; have := putF_le out (j : Int) (x); omega, HBN.out, HV9.out, HB9.out⟩
          case measure => have := HJ.out; simp [intOf]; omega
        | true =>
          have c2 := blk_cell HX5.out 2
          simp at c2
          cases more with
          | true =>
            have hw1 : IntKind.i64.wrap (4611686018427387904 - l) = 4611686018427387904 - l := IntWalk.i64_in _ (by omega)
            by_cases hg : 4611686018427387904 - l < x
            · have dg : decide (x > 4611686018427387904 - l) = true := decide_eq_true hg
              have HFF : Hid (F = ([], 1801)) := Lib.hid (by rw [HFA.out, HBL.out, HSC.out, chL, if_neg HTN.out, if_pos HHV.out, if_pos rfl, HXE.out, if_pos hg])
              clear hg
              go_wp2
              exact bodyPost_ret (v := .tuple #[.slice none 0 0, .int .i64 1801]) (by simp [results, Try.results46, go_sem]) rfl ⟨_, by rw [HFF.out], by rw [HFF.out]; exact Kd.R_nil _ _ _ _ _, HB0.out.trans (HB5.out.mono (by omega))⟩
            · have dg : decide (x > 4611686018427387904 - l) = false := decide_eq_false hg
              have HBN : Hid (chL rs a b l true [] (secs 0 N) = chL rs a b l true (putF out (j : Int) (x + l)) (secs (j + 1) (N - (j + 1)))) := Lib.hid (by rw [HBL.out, HSC.out, chL, if_neg HTN.out, if_pos HHV.out, if_pos rfl, HXE.out, if_neg hg])
              have HPU := Lib.hid (put_is _ (w.heap.size + 1) out (j : Int) (x + l) w5 HV5.out HSZ5.out (by have := HOL.out; omega))
              have hw2 : IntKind.i64.wrap (x + l) = x + l := IntWalk.i64_in _ (by omega)
              clear HXE
              go_wp2_with fail
              refine HPU.out.mono ?_
              rintro e w9 ⟨v9, rfl, hv9, hb9⟩
              have HV9 := Lib.hid hv9
              have HB9 := Lib.hid (HB5.out.trans hb9)
              clear hv9 hb9
              go_wp2
              go_roundw
              case rel => exact ⟨j + 1, putF out (j : Int) (x + l), by go_num, HJ.out, by have := HOL.out; have := putF_le out (j : Int) (x + l); omega, HBN.out, HV9.out, HB9.out⟩
              case measure => have := HJ.out; simp [intOf]; omega
          | false =>
            by_cases hg : x < l
            · have dg : decide (x < l) = true := decide_eq_true hg
              have HFF : Hid (F = ([], 1802)) := Lib.hid (by rw [HFA.out, HBL.out, HSC.out, chL, if_neg HTN.out, if_pos HHV.out, if_neg Bool.false_ne_true, HXE.out, if_pos hg])
              clear hg
              go_wp2
              exact bodyPost_ret (v := .tuple #[.slice none 0 0, .int .i64 1802]) (by simp [results, Try.results46, go_sem]) rfl ⟨_, by rw [HFF.out], by rw [HFF.out]; exact Kd.R_nil _ _ _ _ _, HB0.out.trans (HB5.out.mono (by omega))⟩
            · have dg : decide (x < l) = false := decide_eq_false hg
              have HBN : Hid (chL rs a b l false [] (secs 0 N) = chL rs a b l false (putF out (j : Int) (x - l)) (secs (j + 1) (N - (j + 1)))) := Lib.hid (by rw [HBL.out, HSC.out, chL, if_neg HTN.out, if_pos HHV.out, if_neg Bool.false_ne_true, HXE.out, if_neg hg])
              have HPU := Lib.hid (put_is _ (w.heap.size + 1) out (j : Int) (x - l) w5 HV5.out HSZ5.out (by have := HOL.out; omega))
              have hw2 : IntKind.i64.wrap (x - l) = x - l := IntWalk.i64_in _ (by omega)
              clear HXE
              go_wp2_with fail
              refine HPU.out.mono ?_
              rintro e w9 ⟨v9, rfl, hv9, hb9⟩
              have HV9 := Lib.hid hv9
              have HB9 := Lib.hid (HB5.out.trans hb9)
              clear hv9 hb9
              go_wp2
              go_roundw
              case rel => exact ⟨j + 1, putF out (j : Int) (x - l), by go_num, HJ.out, by have := HOL.out; have := putF_le out (j : Int) (x - l); omega, HBN.out, HV9.out, HB9.out⟩
              case measure => have := HJ.out; simp [intOf]; omega
    · have hd : decide ((j : Int) < 4096) = false := decide_eq_false (by omega)
      have HFF : Hid (F = (out, 0)) := Lib.hid (by rw [HFA.out, HBL.out, show N - j = 0 by omega, secs, chL])
      clear hN
      go_wp2
      exact bodyPost_ret (v := .tuple #[u8, .int .i64 0]) (by simp [results, Try.results46, go_sem]) rfl ⟨u8, by rw [HFF.out], by rw [HFF.out]; exact Kd.R_lower HV.out (by omega), HBW.out⟩
end Go.Proofs.Ytbacdpagpdmkoaa.Man

/- What the laws of chapter 18 call besides: copies, comparisons, rows written over. -/
namespace Go.Proofs.Ytbacdpagpdmkoaa.Man
open Go.RowKit Go.Proofs.Ytbacdpagpdmkoaa.QT Go.Proofs.YtbacdpagpdmkoaaW.PrintWords Go.Proofs.YtbacdpagpdmkoaaW.PrintLast Go.Proofs.YtbacdpagpdmkoaaW.PrintMore

theorem eqRun (d : Nat) (w : World) (x0 y0 : Int) (x1 y1 : Int) :
    (Op.equalIn (d + 2) 82 (.agg #[.int .i64 x0, .int .i64 x1]) (.agg #[.int .i64 y0, .int .i64 y1])).run Try.prog w = .ok (x0 == y0 && (x1 == y1)) w := by
  refine eqA_of Try.underlying82 (by kernel_rfl) ?_
  refine eqf_cons (by rfl) (by go_simp; rfl) (by go_simp; rfl) (by go_simp) ?_
  exact eqf_last (by rfl) (by go_simp; rfl) (by go_simp; rfl) (by go_simp)
theorem eqWt (d : Nat) (w : World) (x0 y0 : Int) (x1 y1 : Int) (x2 y2 : Int) :
    (Op.equalIn (d + 3) 73 (.agg #[.int .i64 x0, .int .i64 x1, .int .i64 x2]) (.agg #[.int .i64 y0, .int .i64 y1, .int .i64 y2])).run Try.prog w = .ok ((x0 == y0 && (x1 == y1)) && (x2 == y2)) w := by
  refine eqA_of Try.underlying73 (by kernel_rfl) ?_
  refine eqf_cons (by rfl) (by go_simp) (by go_simp) (eqA23 _ _ _ _ _ _) ?_
  exact eqf_last (by rfl) (by go_simp; rfl) (by go_simp; rfl) (by go_simp)
instance : DecidableEq Rn := fun x y => by
  cases x
  cases y
  rw [S82.mk.injEq]
  exact inferInstance
instance : DecidableEq Wt := fun x y => by
  cases x
  cases y
  rw [S73.mk.injEq]
  exact inferInstance
theorem run_eq (x y : Rn) : (x.f0 == y.f0 && x.f1 == y.f1) = decide (x = y) := by
  cases x
  cases y
  rw [Bool.eq_iff_iff]
  simp
theorem wt_eq (x y : Wt) : ((x.f0.f0 == y.f0.f0 && x.f0.f1 == y.f0.f1) && x.f1 == y.f1) = decide (x = y) := by
  obtain ⟨⟨a, b⟩, c⟩ := x
  obtain ⟨⟨a', b'⟩, c'⟩ := y
  rw [Bool.eq_iff_iff]
  simp
attribute [local go_sem high] eqRun eqWt
set_option maxHeartbeats 4000000 in
set_option maxRecDepth 100000 in
theorem copyR_is (A : Option Addr) (c : Nat) (rs : List Rn) (w : World) (hr : Kd.C k82 w A rs.length rs) (hl : rs.length * 16 ≤ 140737488355328) :
    Calls Try.prog 31 #[.slice A rs.length c] w fun e w' => ∃ v, e = .returned v ∧ Kd.R k82 82 w' w.heap.size (fun _ => True) v rs ∧ Below w.heap.size w w' := by
  have HL0 : Hid (Kd.R k82 82 (w.alloc (.cells #[] 82)) w.heap.size (fun _ => True) (.slice (some ⟨w.heap.size, 0, none⟩) 0 0) []) := by
    refine Lib.hid ⟨fun _ _ => trivial, [], ?_, Reps.none _ _⟩
    exact World.ownsRow_lit (base := w.heap.size) (e := 82) (size := 2) w #[] 0 (Nat.le_refl _) (by decide) (by simp)
  have HB0 : Hid (Below w.heap.size w (w.alloc (.cells #[] 82))) := Lib.hid ((Below.refl w.heap.size w).alloc (Nat.le_refl _) _)
  have HC : Hid (Kd.C k82 (w.alloc (.cells #[] 82)) A rs.length rs) := Lib.hid (Kd.C_below hr HB0.out)
  have HLL : Hid ((([] : List Rn).length + rs.length) * 16 ≤ 140737488355328) := Lib.hid (by simp; omega)
  clear hr
  go_enter Try.func31, Try.ntmps31
  go_wp2_with (first | ((with_reducible refine gate_builtin (b := .append) (xs := #[.tmp 3, .tmp 4]) rfl ?_); at_builtin; refine Kd.R_append_rows k82 (Rr := k82.K (w.alloc (.cells #[] 82))) (w0 := w) w.heap.size rfl (.tmp 3) (.tmp 4) 50 82 (.agg #[.int .i64 0, .int .i64 0]) 16 rfl Try.underlying50 info82 rfl (by decide) (by omega) (.slice (some ⟨w.heap.size, 0, none⟩) 0 0) [] rs A rs.length c (fun _ => True) (fun _ => False) rfl rfl ?aO ?aR ?aM (fun _ h => h.elim) ?aF ?aB ?aS ?aL ?_; (case aO => exact HL0.out); (case aR => exact HC.out); (case aM => (intro y cs hy; obtain rfl := k82_open hy; exact k82_mkM _ _ _ y)); (case aF => exact (fun _ _ => trivial)); (case aB => exact HB0.out); (case aS => exact HB0.out.size); (case aL => exact HLL.out); intro v1 w1 ho1 hb1 hg1 hat1; simp only [List.nil_append] at ho1; have HO1 := Lib.hid ho1; have HB1 := Lib.hid hb1; clear ho1 hb1 hg1 hat1))
  exact bodyPost_ret (v := v1) (by simp [results, Try.results31, go_sem]) rfl ⟨_, rfl, HO1.out, HB1.out⟩
set_option maxHeartbeats 4000000 in
set_option maxRecDepth 100000 in
theorem copyW_is (A : Option Addr) (c : Nat) (rs : List Wt) (w : World) (hr : Kd.C k73 w A rs.length rs) (hl : rs.length * 24 ≤ 140737488355328) :
    Calls Try.prog 40 #[.slice A rs.length c] w fun e w' => ∃ v, e = .returned v ∧ Kd.R k73 73 w' w.heap.size (fun _ => True) v rs ∧ Below w.heap.size w w' := by
  have HL0 : Hid (Kd.R k73 73 (w.alloc (.cells #[] 73)) w.heap.size (fun _ => True) (.slice (some ⟨w.heap.size, 0, none⟩) 0 0) []) := by
    refine Lib.hid ⟨fun _ _ => trivial, [], ?_, Reps.none _ _⟩
    exact World.ownsRow_lit (base := w.heap.size) (e := 73) (size := 3) w #[] 0 (Nat.le_refl _) (by decide) (by simp)
  have HB0 : Hid (Below w.heap.size w (w.alloc (.cells #[] 73))) := Lib.hid ((Below.refl w.heap.size w).alloc (Nat.le_refl _) _)
  have HC : Hid (Kd.C k73 (w.alloc (.cells #[] 73)) A rs.length rs) := Lib.hid (Kd.C_below hr HB0.out)
  have HLL : Hid ((([] : List Wt).length + rs.length) * 24 ≤ 140737488355328) := Lib.hid (by simp; omega)
  clear hr
  go_enter Try.func40, Try.ntmps40
  go_wp2_with (first | ((with_reducible refine gate_builtin (b := .append) (xs := #[.tmp 3, .tmp 4]) rfl ?_); at_builtin; refine Kd.R_append_rows k73 (Rr := k73.K (w.alloc (.cells #[] 73))) (w0 := w) w.heap.size rfl (.tmp 3) (.tmp 4) 63 73 (.agg #[.int .i64 0, .int .i64 0, .int .i64 0]) 24 rfl Try.underlying63 info73 rfl (by decide) (by omega) (.slice (some ⟨w.heap.size, 0, none⟩) 0 0) [] rs A rs.length c (fun _ => True) (fun _ => False) rfl rfl ?aO ?aR ?aM (fun _ h => h.elim) ?aF ?aB ?aS ?aL ?_; (case aO => exact HL0.out); (case aR => exact HC.out); (case aM => (intro y cs hy; obtain rfl := k73_open hy; exact k73_mkM _ _ _ y)); (case aF => exact (fun _ _ => trivial)); (case aB => exact HB0.out); (case aS => exact HB0.out.size); (case aL => exact HLL.out); intro v1 w1 ho1 hb1 hg1 hat1; simp only [List.nil_append] at ho1; have HO1 := Lib.hid ho1; have HB1 := Lib.hid hb1; clear ho1 hb1 hg1 hat1))
  exact bodyPost_ret (v := v1) (by simp [results, Try.results40, go_sem]) rfl ⟨_, rfl, HO1.out, HB1.out⟩
def SameToR (xs ys : List Rn) (w : World) (i : Value) (w' : World) : Prop := ∃ k : Nat, i = .int .i64 (k : Int) ∧ k ≤ xs.length ∧ xs.take k = ys.take k ∧ Drawn0 w w'
set_option maxHeartbeats 8000000 in
set_option maxRecDepth 100000 in
theorem same_runs (A0 : Option Addr) (c0 : Nat) (l0 : List Rn) (A1 : Option Addr) (c1 : Nat) (l1 : List Rn) (w : World) (hr0 : Kd.C k82 w A0 l0.length l0) (hc0 : l0.length ≤ c0) (hr1 : Kd.C k82 w A1 l1.length l1) (hc1 : l1.length ≤ c1) (hl : l0.length ≤ 281474976710656) :
    Calls Try.prog 39 #[.slice A0 l0.length c0, .slice A1 l1.length c1] w fun e w' => e = .returned (.bool (decide (l0 = l1))) ∧ Drawn0 w w' := by
  have H0 := Lib.hid hr0
  have H1 := Lib.hid hr1
  clear hr0 hr1
  by_cases hn : l0.length = l1.length
  case neg =>
    have hne : l0 ≠ l1 := fun e => hn (by rw [e])
    rw [decide_eq_false hne]
    have hd : ((l0.length : Int) != (l1.length : Int)) = true := by simp; omega
    clear hne hn
    go_enter Try.func39, Try.ntmps39
    go_wp2
    go_ret
    exact ⟨rfl, Drawn0.refl w⟩
  have hd : ((l0.length : Int) != (l1.length : Int)) = false := by simp; omega
  have hle : l0.length ≤ l1.length := by omega
  have HN := Lib.hid hn
  clear hn
  obtain ⟨r, hr⟩ : ∃ r, decide (l0 = l1) = r := ⟨_, rfl⟩
  have HRR := Lib.hid hr
  rw [hr]
  clear hr
  go_enter Try.func39, Try.ntmps39
  go_wp2_with fail
  go_loopw [5] (SameToR l0 l1 w) (fun i _ => l0.length - (intOf i).toNat)
  case atStart => exact ⟨0, rfl, Nat.zero_le _, rfl, Drawn0.refl w⟩
  case round =>
    obtain ⟨k, rfl, hk, hs, nd, rfl⟩ := hrel
    have HS := Lib.hid hs
    clear hs
    by_cases hlt : k < l0.length
    · obtain ⟨ad, rfl, x0, x1⟩ := at_T82 H0.out (k : Int) (by omega) (by omega)
      obtain ⟨ad', rfl, y0, y1⟩ := at_T82 H1.out (k : Int) (by omega) (by omega)
      have hlt1 : k < l1.length := by omega
      rw [rdR_at l0 k hlt, Int.toNat_natCast] at x0 x1
      rw [rdR_at l1 k hlt1, Int.toNat_natCast] at y0 y1
      have HT : Hid (l0.take (k + 1) = l0.take k ++ [l0[k]] ∧ l1.take (k + 1) = l1.take k ++ [l1[k]]) := Lib.hid ⟨List.take_succ_eq_append_getElem hlt, List.take_succ_eq_append_getElem hlt1⟩
      generalize hx : l0[k] = x at *
      generalize hy : l1[k] = y at *
      have HX := Lib.hid hx
      have HY := Lib.hid hy
      clear hx hy
      have hdk : decide ((k : Int) < (l0.length : Int)) = true := by simpa using hlt
      by_cases he : x = y
      · subst he
        go_wp2_with fail
        go_quiet (fail)
        go_wp2
        go_roundw
        case rel => exact ⟨k + 1, by go_num, by omega, by rw [HT.out.1, HT.out.2, HS.out], by repeat (first | exact Drawn0.refl _ | apply Drawn0.step)⟩
        case measure => simp [intOf]; omega
      · have hq : (x.f0 == y.f0 && x.f1 == y.f1) = false := by rw [run_eq]; exact decide_eq_false he
        have HF : Hid (r = false) := Lib.hid (by
          rw [← HRR.out]
          refine decide_eq_false fun e => he ?_
          subst e
          rw [← HX.out, ← HY.out])
        go_wp2_with fail
        go_quiet (fail)
        go_wp2
        go_ret
        rw [HF.out]
        exact ⟨rfl, by repeat (first | exact Drawn0.refl _ | apply Drawn0.step)⟩
    · have hdk : decide ((k : Int) < (l0.length : Int)) = false := by simpa using hlt
      have HF : Hid (r = true) := Lib.hid (by
        rw [← HRR.out]
        refine decide_eq_true ?_
        have := HS.out
        rwa [List.take_of_length_le (by omega), List.take_of_length_le (by have := HN.out; omega)] at this)
      go_wp2
      go_ret
      rw [HF.out]
      exact ⟨rfl, by repeat (first | exact Drawn0.refl _ | apply Drawn0.step)⟩
def SameToW (xs ys : List Wt) (w : World) (i : Value) (w' : World) : Prop := ∃ k : Nat, i = .int .i64 (k : Int) ∧ k ≤ xs.length ∧ xs.take k = ys.take k ∧ Drawn0 w w'
set_option maxHeartbeats 8000000 in
set_option maxRecDepth 100000 in
theorem same_weights (A0 : Option Addr) (c0 : Nat) (l0 : List Wt) (A1 : Option Addr) (c1 : Nat) (l1 : List Wt) (w : World) (hr0 : Kd.C k73 w A0 l0.length l0) (hc0 : l0.length ≤ c0) (hr1 : Kd.C k73 w A1 l1.length l1) (hc1 : l1.length ≤ c1) (hl : l0.length ≤ 281474976710656) :
    Calls Try.prog 44 #[.slice A0 l0.length c0, .slice A1 l1.length c1] w fun e w' => e = .returned (.bool (decide (l0 = l1))) ∧ Drawn0 w w' := by
  have H0 := Lib.hid hr0
  have H1 := Lib.hid hr1
  clear hr0 hr1
  by_cases hn : l0.length = l1.length
  case neg =>
    have hne : l0 ≠ l1 := fun e => hn (by rw [e])
    rw [decide_eq_false hne]
    have hd : ((l0.length : Int) != (l1.length : Int)) = true := by simp; omega
    clear hne hn
    go_enter Try.func44, Try.ntmps44
    go_wp2
    go_ret
    exact ⟨rfl, Drawn0.refl w⟩
  have hd : ((l0.length : Int) != (l1.length : Int)) = false := by simp; omega
  have hle : l0.length ≤ l1.length := by omega
  have HN := Lib.hid hn
  clear hn
  obtain ⟨r, hr⟩ : ∃ r, decide (l0 = l1) = r := ⟨_, rfl⟩
  have HRR := Lib.hid hr
  rw [hr]
  clear hr
  go_enter Try.func44, Try.ntmps44
  go_wp2_with fail
  go_loopw [5] (SameToW l0 l1 w) (fun i _ => l0.length - (intOf i).toNat)
  case atStart => exact ⟨0, rfl, Nat.zero_le _, rfl, Drawn0.refl w⟩
  case round =>
    obtain ⟨k, rfl, hk, hs, nd, rfl⟩ := hrel
    have HS := Lib.hid hs
    clear hs
    by_cases hlt : k < l0.length
    · obtain ⟨ad, rfl, x0, x1, x2⟩ := at_T73 H0.out (k : Int) (by omega) (by omega)
      obtain ⟨ad', rfl, y0, y1, y2⟩ := at_T73 H1.out (k : Int) (by omega) (by omega)
      have hlt1 : k < l1.length := by omega
      rw [rdW_at l0 k hlt, Int.toNat_natCast] at x0 x1 x2
      rw [rdW_at l1 k hlt1, Int.toNat_natCast] at y0 y1 y2
      have HT : Hid (l0.take (k + 1) = l0.take k ++ [l0[k]] ∧ l1.take (k + 1) = l1.take k ++ [l1[k]]) := Lib.hid ⟨List.take_succ_eq_append_getElem hlt, List.take_succ_eq_append_getElem hlt1⟩
      generalize hx : l0[k] = x at *
      generalize hy : l1[k] = y at *
      have HX := Lib.hid hx
      have HY := Lib.hid hy
      clear hx hy
      have hdk : decide ((k : Int) < (l0.length : Int)) = true := by simpa using hlt
      by_cases he : x = y
      · subst he
        go_wp2_with fail
        go_quiet (fail)
        go_wp2
        go_roundw
        case rel => exact ⟨k + 1, by go_num, by omega, by rw [HT.out.1, HT.out.2, HS.out], by repeat (first | exact Drawn0.refl _ | apply Drawn0.step)⟩
        case measure => simp [intOf]; omega
      · have hq : ((x.f0.f0 == y.f0.f0 && x.f0.f1 == y.f0.f1) && x.f1 == y.f1) = false := by rw [wt_eq]; exact decide_eq_false he
        have HF : Hid (r = false) := Lib.hid (by
          rw [← HRR.out]
          refine decide_eq_false fun e => he ?_
          subst e
          rw [← HX.out, ← HY.out])
        go_wp2_with fail
        go_quiet (fail)
        go_wp2
        go_ret
        rw [HF.out]
        exact ⟨rfl, by repeat (first | exact Drawn0.refl _ | apply Drawn0.step)⟩
    · have hdk : decide ((k : Int) < (l0.length : Int)) = false := by simpa using hlt
      have HF : Hid (r = true) := Lib.hid (by
        rw [← HRR.out]
        refine decide_eq_true ?_
        have := HS.out
        rwa [List.take_of_length_le (by omega), List.take_of_length_le (by have := HN.out; omega)] at this)
      go_wp2
      go_ret
      rw [HF.out]
      exact ⟨rfl, by repeat (first | exact Drawn0.refl _ | apply Drawn0.step)⟩

def SpoilAt (w : World) (base g n cap : Nat) (i : Value) (w' : World) : Prop := ∃ (k : Nat) (ys : List Rn), i = .int .i64 (k : Int) ∧ k ≤ n ∧ ys.length = n ∧ Below base w w' ∧ Kd.R k82 82 w' base (fun _ => True) (.slice (some ⟨g, 0, none⟩) n cap) ys ∧ w.grownBy w' (some g)
theorem Mine.grown {w w' : World} {base : Nat} {v : Value} {rs : List Rn} {row : Option Nat} (h : Mine w base v rs) (hg : w.grownBy w' row) (hr : ∀ k, row = some k → k < base) : Mine w' base v rs := by
  obtain ⟨g, n, cap, e, hR⟩ := h
  obtain ⟨cur, hh, hb, rfl, h1, h2, h3, h4⟩ := row_to hR
  refine ⟨g, rs.length, cap, e, row_of ((hg.block g (blk_lt hh) (fun e2 => ?_)).trans hh) hb trivial h1 h2 h3 h4⟩
  have := hr g e2.symm
  omega
theorem Res.grown {w w' : World} {base : Nat} {v : Value} {rs : List Rn} {row : Option Nat} (h : Res w base v rs) (hg : w.grownBy w' row) (hr : ∀ k, row = some k → k < base) : Res w' base v rs := h.imp id (fun h => h.grown hg hr)
theorem Res.block {w : World} {base : Nat} {v : Value} {rs : List Rn} (h : Res w base v rs) (k : Nat) (hk : v.ownBlock = some k) : k < w.heap.size := by
  rcases h with ⟨rfl, _⟩ | ⟨g, n, cap, rfl, hR⟩
  · cases hk
  · obtain ⟨cur, hh, _⟩ := row_to hR
    simp only [Value.ownBlock, Option.some.injEq] at hk
    subst hk
    exact blk_lt hh
set_option maxHeartbeats 4000000 in
set_option maxRecDepth 100000 in
theorem spoil_is (v : Value) (base : Nat) (rs : List Rn) (w : World) (hr : Res w base v rs) (hl : rs.length ≤ 281474976710656) :
    Calls Try.prog 43 #[v] w fun e w' => e = .returned (.tuple #[]) ∧ Below base w w' ∧ w.grownBy w' v.ownBlock := by
  rcases hr with ⟨rfl, rfl⟩ | ⟨g, n, cap, rfl, hR⟩
  · go_enter Try.func43, Try.ntmps43
    go_wp2_with fail
    go_loopw [2] (fun i w' => i = .int .i64 0 ∧ w' = w) (fun i _ => 0)
    case atStart => exact ⟨rfl, rfl⟩
    case round =>
      obtain ⟨rfl, rfl⟩ := hrel
      go_wp2
      go_end0
      exact ⟨rfl, Below.refl _ _, World.grownBy.refl _ _⟩
  obtain ⟨A_, c_, e_, hcap, hC⟩ := Kd.R_reads hR
  injection e_ with e1 e2 e3
  subst e1 e2 e3
  have HR := Lib.hid hR
  clear hR hC
  go_enter Try.func43, Try.ntmps43
  go_wp2_with fail
  go_loopw [2] (SpoilAt w base g rs.length cap) (fun i _ => rs.length - (intOf i).toNat)
  case atStart => exact ⟨0, rs, rfl, Nat.zero_le _, rfl, Below.refl _ _, HR.out, World.grownBy.refl _ _⟩
  case round =>
    obtain ⟨k, ys, rfl, hk, hyl, hb, hR, hgr⟩ := hrel
    have HGR := Lib.hid hgr
    clear hgr
    have HB := Lib.hid hb
    have HRk := Lib.hid hR
    have HYL := Lib.hid hyl
    clear hb hR hyl
    by_cases hlt : k < rs.length
    · have hd : decide ((k : Int) < (rs.length : Int)) = true := by simpa using hlt
      obtain ⟨A_, c_, e_, _, hC⟩ := Kd.R_reads HRk.out
      injection e_ with e1 e2 e3
      subst e1 e3
      clear e2
      obtain ⟨ad, e1, z0, z1⟩ := at_T82 hC (k : Int) (by omega) (by have := HYL.out; omega)
      injection e1 with e1
      subst e1
      rw [Int.toNat_natCast, add_plain] at z0 z1
      have HZ : Hid (∀ (i : Nat) (u : Value), [Value.int .i64 (rd_T82 ys (k : Int)).f0, Value.int .i64 (rd_T82 ys (k : Int)).f1][i]? = some u → wr.cell? ⟨g, ((k : Nat) : Int).toNat * 2 + i, none⟩ = some u) := Lib.hid (by
        intro i u hu
        match i, hu with
        | 0, hu => injection hu with hu; subst hu; exact z0
        | 1, hu => injection hu with hu; subst hu; exact z1)
      clear z0 z1 hC
      have hjl : (k : Int) < (rs.length : Int) := by omega
      have HJL := Lib.hid hjl
      go_wp2_with (first | ((with_reducible refine gate_ (.store 82 (.tmp 12) (.tmp 11)) rfl ?_); refine Kd.R_store k82 (w0 := w) base rfl rfl 82 (.tmp 12) (.tmp 11) rfl 82 (g := g) (n := rs.length) (cap := cap) (o' := k * 2) (k : Int) 0 ys ⟨-3, -5⟩ (.agg #[.int .i64 (-3), .int .i64 (-5)]) [.int .i64 (-3), .int .i64 (-5)] [Value.int .i64 (rd_T82 ys (k : Int)).f0, Value.int .i64 (rd_T82 ys (k : Int)).f1] (fun _ => True) (fun _ => False) ?a1 ?a2 ?a3 ?a4 ?a5 ?a6 ?a7 ?a8 ?a9 ?b1 ?b2 ?b3 ?b4 ?b5 ?b6 ?_; (case a1 => rfl); (case a2 => rfl); (case a3 => rfl); (case a4 => rfl); (case a5 => rfl); (case a6 => (intro q hq; simp at hq; rcases hq with rfl | rfl <;> rfl)); (case a7 => exact HRk.out); (case a8 => exact Int.natCast_nonneg k); (case a9 => exact HJL.out); (case b1 => rfl); (case b2 => exact HZ.out); (case b3 => exact Nat.le_refl _); (case b4 => exact k82_mkM _ _ _ ⟨-3, -5⟩); (case b5 => exact fun _ h => h.elim); (case b6 => exact HB.out); intro w3 hr3 hb3 hg3; have HR5 := Lib.hid hr3; have HB5 := Lib.hid hb3; have HG5 := Lib.hid (HGR.out.trans hg3); clear hr3 hb3 hg3))
      go_roundw
      case rel => exact ⟨k + 1, ys.set k ⟨-3, -5⟩, by go_num, by omega, by rw [List.length_set]; exact HYL.out, HB5.out, HR5.out, HG5.out⟩
      case measure => simp [intOf]; omega
    · have hd : decide ((k : Int) < (rs.length : Int)) = false := by simpa using hlt
      go_wp2
      go_end0
      exact ⟨rfl, HB.out, HGR.out⟩
set_option maxHeartbeats 4000000 in
set_option maxRecDepth 100000 in
theorem weigh_is (a b l : Int) (w : World) : Calls Try.prog 56 #[.int .i64 a, .int .i64 b, .int .i64 l] w fun e w' => e = .returned (.agg #[.int .i64 a, .int .i64 b, .int .i64 l]) ∧ Below w.heap.size w w' := by
  go_enter Try.func56, Try.ntmps56
  go_wp2
  exact bodyPost_ret (v := .agg #[.int .i64 a, .int .i64 b, .int .i64 l]) (by simp [results, Try.results56, go_sem]) rfl ⟨rfl, (Below.refl _ _).alloc (Nat.le_refl _) _⟩
end Go.Proofs.Ytbacdpagpdmkoaa.Man

/- tollbarlaw18.awake answers true. -/
namespace Go.Proofs.Ytbacdpagpdmkoaa.Man
open Go.RowKit Go.Proofs.Ytbacdpagpdmkoaa.QT Go.Proofs.YtbacdpagpdmkoaaW.PrintWords Go.Proofs.YtbacdpagpdmkoaaW.PrintLast Go.Proofs.YtbacdpagpdmkoaaW.PrintMore

def awW : List Wt := [⟨⟨2, 6⟩, 3⟩, ⟨⟨4, 9⟩, 2⟩]
def awR : List Rn := [⟨0, 0⟩, ⟨2, 3⟩, ⟨4, 5⟩, ⟨6, 2⟩, ⟨9, 0⟩]
def awS : List Rn := [⟨0, 0⟩, ⟨2, 3⟩, ⟨4, 0⟩, ⟨6, 2⟩, ⟨9, 0⟩]
theorem aw18_sort : sortF (0 :: ptsOf awW) = [0, 2, 4, 6, 9] := by simp [sortF, ptsOf, awW, List.mergeSort, List.MergeSort.Internal.splitInTwo]
theorem aw18_build : buildR awW = (awR, 0) := by
  unfold buildR
  rw [aw18_sort]
  rfl
theorem aw18_at : atF awR 5 = (5, 0) := by decide
theorem aw18_most : mostF awR 0 20 = (5, 4, 0) := by decide
theorem aw18_take : turnR awR 4 6 5 1802 (takeT 5) = (awS, 0) := by rfl
theorem aw18_take2 : (turnR awR 3 6 4 1802 (takeT 4)).2 = 1802 := by decide
theorem aw18_add : (turnR awR 3 6 4611686018427387904 1801 (addT 4611686018427387904)).2 = 1801 := by decide
theorem aw18_may : mayR awR = true := by decide
theorem litW_C (w : World) : Kd.C k73 (w.alloc (.cells #[.int .i64 2, .int .i64 6, .int .i64 3, .int .i64 4, .int .i64 9, .int .i64 2] 73)) (some ⟨w.heap.size, 0, none⟩) awW.length awW := by
  have h : Kd.R k73 73 (w.alloc (.cells #[.int .i64 2, .int .i64 6, .int .i64 3, .int .i64 4, .int .i64 9, .int .i64 2] 73)) w.heap.size (fun _ => True) (.slice (some ⟨w.heap.size, 0, none⟩) 2 2) awW :=
    ⟨fun _ _ => trivial, _, World.ownsRow_lit (base := w.heap.size) (e := 73) (size := 3) w _ 2 (Nat.le_refl _) (by decide) rfl, Reps.snoc (Reps.snoc (Reps.none _ _) (k73_mkM _ _ _ ⟨⟨2, 6⟩, 3⟩) rfl) (k73_mkM _ _ _ ⟨⟨4, 9⟩, 2⟩) rfl⟩
  obtain ⟨A, c, e, _, hC⟩ := Kd.R_reads h
  injection e with e1 e2 e3
  rw [e1]
  exact hC
theorem litR_C (w : World) (rs : List Rn) (cs : Array Value) (hcs : cs.toList = cellsOf rs) (hl : rs.length ≤ maxLen) : Kd.C k82 (w.alloc (.cells cs 82)) (some ⟨w.heap.size, 0, none⟩) rs.length rs := by
  have h1 := row_of (base := 0) (ok := fun _ => True) (rs := rs) (cap := rs.length) (blk_new w (.cells cs 82 (0, 0))) (Nat.zero_le _) trivial (Nat.le_refl _) hl (by rw [← Array.length_toList, hcs, cellsOf_length]) (by rw [List.take_of_length_le (by rw [hcs, cellsOf_length]; exact Nat.le_refl _), hcs])
  obtain ⟨A, c, e, _, hC⟩ := Kd.R_reads h1
  injection e with e1 e2 e3
  rw [e1]
  exact hC

set_option maxHeartbeats 8000000 in
set_option maxRecDepth 100000 in
theorem awake18 (w : World) : Calls Try.prog 36 #[] w fun e w' => e = .returned (.bool true) ∧ Below w.heap.size w w' := by
  have HB0 := Lib.hid (Below.refl w.heap.size w)
  go_enter Try.func36, Try.ntmps36
  go_wp2_with fail
  refine (weigh_is 2 6 3 w).mono ?_
  rintro e w1 ⟨rfl, hb⟩
  have HB1 := Lib.hid (below_then HB0.out HB0.out.size hb)
  clear hb
  go_wp2_with fail
  refine (weigh_is 4 9 2 w1).mono ?_
  rintro e w2 ⟨rfl, hb⟩
  have HB2 := Lib.hid (below_then HB1.out HB1.out.size hb)
  clear hb
  go_wp2_with fail
  refine (build_is (some ⟨w2.heap.size, 0, none⟩) 2 awW (w2.alloc (.cells #[.int .i64 2, .int .i64 6, .int .i64 3, .int .i64 4, .int .i64 9, .int .i64 2] 73)) (litW_C w2) (by decide) (by decide)).mono ?_
  rintro e w3 ⟨v, rfl, hres, hb⟩
  have HB3 := Lib.hid (below_then HB2.out HB2.out.size (((Below.refl _ _).alloc (Nat.le_refl _) _).trans (hb.mono (by simp))))
  rw [aw18_build] at hres ⊢
  obtain ⟨A5, rfl, hC5⟩ := hres.reads
  have HA3 := Lib.hid hC5
  clear hres hC5
  clear hb
  go_wp2_with fail
  refine (at_is A5 awR.length awR 5 w3 HA3.out (Nat.le_refl _) (by decide)).mono ?_
  rintro e w4 ⟨rfl, hb⟩
  have HB4 := Lib.hid (below_then HB3.out HB3.out.size hb)
  have HA4 := Lib.hid (Kd.C_below HA3.out hb)
  rw [aw18_at]
  clear hb
  go_wp2_with fail
  refine (most_is A5 awR.length awR 0 20 w4 HA4.out (Nat.le_refl _) (by decide)).mono ?_
  rintro e w5 ⟨rfl, hb⟩
  have HB5 := Lib.hid (below_then HB4.out HB4.out.size hb)
  have HA5 := Lib.hid (Kd.C_below HA4.out hb)
  rw [aw18_most]
  clear hb
  go_wp2_with fail
  refine (weigh_is 4 6 5 w5).mono ?_
  rintro e w6 ⟨rfl, hb⟩
  have HB6 := Lib.hid (below_then HB5.out HB5.out.size hb)
  have HA6 := Lib.hid (Kd.C_below HA5.out hb)
  clear hb
  go_wp2_with fail
  refine (ptake_is A5 awR.length awR 4 6 5 w6 HA6.out (Nat.le_refl _) (by decide)).mono ?_
  rintro e w7 ⟨v, rfl, hres, hb⟩
  have HB7 := Lib.hid (below_then HB6.out HB6.out.size hb)
  have HA7 := Lib.hid (Kd.C_below HA6.out hb)
  rw [aw18_take] at hres ⊢
  obtain ⟨A6, rfl, hC6⟩ := hres.reads
  have HS7 := Lib.hid hC6
  clear hres hC6
  clear hb
  go_wp2_with fail
  refine (weigh_is 3 6 4 w7).mono ?_
  rintro e w8 ⟨rfl, hb⟩
  have HB8 := Lib.hid (below_then HB7.out HB7.out.size hb)
  have HA8 := Lib.hid (Kd.C_below HA7.out hb)
  have HS8 := Lib.hid (Kd.C_below HS7.out hb)
  clear hb
  go_wp2_with fail
  refine (ptake_is A5 awR.length awR 3 6 4 w8 HA8.out (Nat.le_refl _) (by decide)).mono ?_
  rintro e w9 ⟨v7, rfl, _, hb⟩
  have HB9 := Lib.hid (below_then HB8.out HB8.out.size hb)
  have HA9 := Lib.hid (Kd.C_below HA8.out hb)
  have HS9 := Lib.hid (Kd.C_below HS8.out hb)
  rw [aw18_take2]
  clear hb
  go_wp2_with fail
  refine (weigh_is 3 6 4611686018427387904 w9).mono ?_
  rintro e w10 ⟨rfl, hb⟩
  have HB10 := Lib.hid (below_then HB9.out HB9.out.size hb)
  have HA10 := Lib.hid (Kd.C_below HA9.out hb)
  have HS10 := Lib.hid (Kd.C_below HS9.out hb)
  clear hb
  go_wp2_with fail
  refine (padd_is A5 awR.length awR 3 6 4611686018427387904 w10 HA10.out (Nat.le_refl _) (by decide)).mono ?_
  rintro e w11 ⟨v8, rfl, _, hb⟩
  have HB11 := Lib.hid (below_then HB10.out HB10.out.size hb)
  have HA11 := Lib.hid (Kd.C_below HA10.out hb)
  have HS11 := Lib.hid (Kd.C_below HS10.out hb)
  rw [aw18_add]
  clear hb
  have HL := Lib.hid (litR_C w11 awR #[.int .i64 0, .int .i64 0, .int .i64 2, .int .i64 3, .int .i64 4, .int .i64 5, .int .i64 6, .int .i64 2, .int .i64 9, .int .i64 0] rfl (by decide))
  have HP := Lib.hid (Kd.C_below HA11.out ((Below.refl _ _).alloc (Nat.le_refl _) (.cells #[.int .i64 0, .int .i64 0, .int .i64 2, .int .i64 3, .int .i64 4, .int .i64 5, .int .i64 6, .int .i64 2, .int .i64 9, .int .i64 0] 82)))
  have HQ := Lib.hid (same_runs A5 awR.length awR (some ⟨w11.heap.size, 0, none⟩) 5 awR _ HP.out (Nat.le_refl _) HL.out (by decide) (by decide))
  rw [show decide (awR = awR) = true from decide_eq_true rfl] at HQ
  go_wp2_with fail
  refine HQ.out.mono ?_
  rintro e w12 ⟨rfl, hdr⟩
  have hb := ((Below.refl _ _).alloc (Nat.le_refl w11.heap.size) (.cells #[.int .i64 0, .int .i64 0, .int .i64 2, .int .i64 3, .int .i64 4, .int .i64 5, .int .i64 6, .int .i64 2, .int .i64 9, .int .i64 0] 82)).trans (hdr.below.mono (by simp))
  have HB12 := Lib.hid (below_then HB11.out HB11.out.size hb)
  have HA12 := Lib.hid (Kd.C_below HA11.out hb)
  have HS12 := Lib.hid (Kd.C_below HS11.out hb)
  clear hb hdr HL HP HQ
  go_wp2_with fail
  refine (num_is 0 w12).mono ?_
  rintro e _ ⟨rfl, rfl⟩
  go_wp2_with fail
  refine (num_is 0 w12).mono ?_
  rintro e _ ⟨rfl, rfl⟩
  go_wp2_with fail
  refine (num_is 0 w12).mono ?_
  rintro e _ ⟨rfl, rfl⟩
  have HL := Lib.hid (litR_C w12 awS #[.int .i64 0, .int .i64 0, .int .i64 2, .int .i64 3, .int .i64 4, .int .i64 0, .int .i64 6, .int .i64 2, .int .i64 9, .int .i64 0] rfl (by decide))
  have HP := Lib.hid (Kd.C_below HS12.out ((Below.refl _ _).alloc (Nat.le_refl _) (.cells #[.int .i64 0, .int .i64 0, .int .i64 2, .int .i64 3, .int .i64 4, .int .i64 0, .int .i64 6, .int .i64 2, .int .i64 9, .int .i64 0] 82)))
  have HQ := Lib.hid (same_runs A6 awS.length awS (some ⟨w12.heap.size, 0, none⟩) 5 awS _ HP.out (Nat.le_refl _) HL.out (by decide) (by decide))
  rw [show decide (awS = awS) = true from decide_eq_true rfl] at HQ
  go_wp2_with fail
  refine HQ.out.mono ?_
  rintro e w13 ⟨rfl, hdr⟩
  have hb := ((Below.refl _ _).alloc (Nat.le_refl w12.heap.size) (.cells #[.int .i64 0, .int .i64 0, .int .i64 2, .int .i64 3, .int .i64 4, .int .i64 0, .int .i64 6, .int .i64 2, .int .i64 9, .int .i64 0] 82)).trans (hdr.below.mono (by simp))
  have HB13 := Lib.hid (below_then HB12.out HB12.out.size hb)
  have HA13 := Lib.hid (Kd.C_below HA12.out hb)
  have HS13 := Lib.hid (Kd.C_below HS12.out hb)
  clear hb hdr HL HP HQ
  go_wp2_with fail
  refine (num_is 0 w13).mono ?_
  rintro e _ ⟨rfl, rfl⟩
  go_wp2_with fail
  refine (num_is 1802 w13).mono ?_
  rintro e _ ⟨rfl, rfl⟩
  go_wp2_with fail
  refine (num_is 1801 w13).mono ?_
  rintro e _ ⟨rfl, rfl⟩
  go_wp2_with fail
  refine (pmay_is A5 awR.length awR w13 HA13.out (Nat.le_refl _) (by decide)).mono ?_
  rintro e w14 ⟨rfl, hb⟩
  have HB14 := Lib.hid (below_then HB13.out HB13.out.size hb)
  have HA14 := Lib.hid (Kd.C_below HA13.out hb)
  have HS14 := Lib.hid (Kd.C_below HS13.out hb)
  rw [aw18_may]
  clear hb
  obtain ⟨A0, c0, e0, hc0, hC0⟩ := Kd.R_reads (Kd.R_nil k82 0 w14 0 (fun _ => True))
  injection e0 with e01 e02 e03
  subst e01 e03
  clear e02
  have HNI := Lib.hid (pmay_is none 0 [] w14 hC0 (Nat.le_refl _) (by decide))
  clear hC0 hc0
  rw [show mayR [] = false from rfl] at HNI
  go_wp2_with fail
  refine HNI.out.mono ?_
  rintro e wz ⟨rfl, hb⟩
  have HBz := Lib.hid (below_then HB14.out HB14.out.size hb)
  clear hb
  go_wp2
  exact bodyPost_ret (v := .bool true) (by simp [results, Try.results36, go_sem]) rfl ⟨rfl, HBz.out⟩
end Go.Proofs.Ytbacdpagpdmkoaa.Man

/- Profiles: what the program's At and Most answer is what the reference's answer. -/
namespace Go.Proofs.Ytbacdpagpdmkoaa.Man
open Go.RowKit Go.Proofs.Ytbacdpagpdmkoaa.QT Go.Proofs.YtbacdpagpdmkoaaW.PrintWords Go.Proofs.YtbacdpagpdmkoaaW.PrintLast Go.Proofs.YtbacdpagpdmkoaaW.PrintMore

theorem atL_none (t : Int) : ∀ (rs : List Rn) (acc : Int), (∀ y ∈ rs, t < y.f0) → atL t acc rs = acc
  | [], _, _ => rfl
  | x :: r, acc, h => by
    have hx := h x List.mem_cons_self
    rw [atL, if_neg (by omega)]
    exact atL_none t r acc (fun y hy => h y (List.mem_cons_of_mem _ hy))
theorem cnt_cons_pos {x : Rn} {r : List Rn} {t : Int} (h : x.f0 ≤ t) : cnt (x :: r) t = cnt r t + 1 := by unfold cnt; rw [List.takeWhile_cons_of_pos (by simpa using h)]; rfl
theorem cnt_cons_neg {x : Rn} {r : List Rn} {t : Int} (h : ¬ x.f0 ≤ t) : cnt (x :: r) t = 0 := by unfold cnt; rw [List.takeWhile_cons_of_neg (by simpa using h)]; rfl
theorem atL_cnt (t : Int) : ∀ (rs : List Rn) (acc : Int), Rise rs → atL t acc rs = match cnt rs t with | 0 => acc | k + 1 => (rd_T82 rs (k : Int)).f1
  | [], acc, _ => rfl
  | x :: r, acc, h => by
    have hr := (List.pairwise_cons.1 h).2
    have hx := (List.pairwise_cons.1 h).1
    by_cases hc : x.f0 ≤ t
    · rw [atL, if_pos hc, cnt_cons_pos hc, atL_cnt t r x.f1 hr]
      cases cnt r t with
      | zero => rfl
      | succ k =>
        show (rd_T82 r (k : Int)).f1 = (rd_T82 (x :: r) ((k + 1 : Nat) : Int)).f1
        simp [rd_T82]
    · rw [atL, if_neg hc, cnt_cons_neg hc, atL_none t r acc (fun y hy => by have := hx y hy; omega)]
theorem loadAt_atL {rs : List Rn} {t : Int} (h : mayR rs = true) (ht : 0 ≤ t) : loadAt rs t = atL t 0 rs := by
  have hp := cnt_pos h ht
  obtain ⟨k, hk⟩ : ∃ k, cnt rs t = k + 1 := ⟨cnt rs t - 1, by omega⟩
  rw [atL_cnt t rs 0 (may_rise h), hk]
  unfold loadAt
  rw [hk, show ((k + 1 : Nat) : Int) - 1 = (k : Int) by omega]
theorem atF_ratF (rs : List Rn) (t : Int) : atF rs t = ratF rs t := by
  unfold atF ratF
  by_cases h : mayR rs = true ∧ (0 ≤ t ∧ t < 4096)
  · rw [if_pos h, if_pos h, loadAt_atL h.1 h.2.1]
  · rw [if_neg h, if_neg h]
theorem hasF_true {a b t : Int} : hasF a b t = true ↔ mayF a b = true ∧ a ≤ t ∧ t < b := by
  unfold hasF
  simp only [Bool.and_eq_true, decide_eq_true_eq, and_assoc]
theorem fold_still {a b : Int} {p : Int × Int} : ∀ (q : List Rn), (∀ x ∈ q, ¬ (hasF a b x.f0 = true ∧ p.1 < x.f1)) → q.foldl (stepR a b) p = p
  | [], _ => rfl
  | x :: q, h => by
    rw [List.foldl_cons, stepR, if_neg (h x List.mem_cons_self)]
    exact fold_still q (fun y hy => h y (List.mem_cons_of_mem _ hy))
theorem fold_same {a b : Int} (hm : mayF a b = true) : ∀ (q : List Rn) (p : Int × Int), (∀ x ∈ q, a < x.f0) → q.foldl (stepR a b) p = q.foldl (stepM b) p
  | [], _, _ => rfl
  | x :: q, p, h => by
    have hx := h x List.mem_cons_self
    have : stepR a b p x = stepM b p x := by
      unfold stepR stepM
      by_cases hc : x.f0 < b ∧ p.1 < x.f1
      · rw [if_pos ⟨hasF_true.2 ⟨hm, by omega, hc.1⟩, hc.2⟩, if_pos hc]
      · rw [if_neg (fun h => hc ⟨(hasF_true.1 h.1).2.2, h.2⟩), if_neg hc]
    rw [List.foldl_cons, List.foldl_cons, this]
    exact fold_same hm q _ (fun y hy => h y (List.mem_cons_of_mem _ hy))
theorem most_rmost (rs : List Rn) (a b : Int) : mostF rs a b = rmostF rs a b := by
  unfold mostF rmostF
  by_cases h : mayR rs = true ∧ mayF a b = true
  case neg => rw [if_neg h, if_neg h]
  rw [if_pos h, if_pos h]
  obtain ⟨hm, hs⟩ := h
  have ha := (mayF_true.1 hs).1
  have hP := parts_cnt rs a (may_rise hm)
  have hpos := cnt_pos hm ha
  have hl := loadAt_atL hm ha
  have : rtopM a b (atL a 0 rs, a) rs = topM b (loadAt rs a, a) (rs.drop (cnt rs a)) := by
    rw [hl]
    unfold rtopM topM
    rw [← List.take_append_drop (cnt rs a) rs, List.foldl_append, List.take_append_drop]
    rw [fold_still (rs.take (cnt rs a))]
    · exact fold_same hs _ _ (fun x hx => by
        obtain ⟨j, hj, rfl⟩ := List.mem_iff_getElem.1 hx
        rw [List.getElem_drop]
        exact hP.2.2 _ _ (by omega))
    · intro x hx hc
      obtain ⟨j, hj, rfl⟩ := List.mem_iff_getElem.1 hx
      rw [List.getElem_take] at hc
      have hjl : j < cnt rs a := by rw [List.length_take] at hj; omega
      have hK := hP.1
      have h1 := hP.2.1 j (by omega) hjl
      have h2 := (hasF_true.1 hc.1).2.1
      have hlast : j = cnt rs a - 1 := by
        rcases Nat.lt_or_ge j (cnt rs a - 1) with h3 | h3
        · have := rise_lt (may_rise hm) j (cnt rs a - 1) (by omega) h3
          have := hP.2.1 (cnt rs a - 1) (by omega) (by omega)
          omega
        · omega
      have h4 : atL a 0 rs = (rs[j]'(by omega)).f1 := by
        rw [← hl]
        unfold loadAt
        rw [show ((cnt rs a : Int) - 1) = (j : Int) by omega, rdR_at rs j (by omega)]
      rw [h4] at hc
      exact absurd hc.2 (Int.lt_irrefl _)
  rw [this]
end Go.Proofs.Ytbacdpagpdmkoaa.Man
