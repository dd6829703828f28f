/- TellK1: texts of this seat laid together by merge.py: Later, TellA, TellB, TellC, TellD, TellM. -/
import Derived.Test.YteikgpdjfhdneaaShelf
import Derived.Test.YteikgpdjfhdneaaWMore
import Derived.BigQuiet
import Derived.Test.YteikgpdjfhdneaaWordL
import Derived.Test.YteikgpdjfhdneaaQT1
import Derived.StillTailTactics
import Derived.Lib.SliceRun
set_option linter.unusedVariables false
set_option linter.unusedSimpArgs false
namespace Go.Proofs.Yteikgpdjfhdneaa.Man
open Go Go.RowKit Go.Proofs.YteikgpdjfhdneaaW.PrintWords Go.Proofs.YteikgpdjfhdneaaW.PrintLast Go.Proofs.YteikgpdjfhdneaaW.PrintMore
def Later (w : World) : Type := {W : World // Below w.heap.size w W}
def Later.at {w : World} (x : Later w) : World := x.val
instance (w : World) : Nonempty (Later w) := ⟨⟨w, Below.refl _ _⟩⟩
theorem Later.below {w : World} (x : Later w) : Below w.heap.size w x.at := x.property
theorem Later.cell {w : World} {a : Addr} {v : Value} (h : w.cell? a = some v) (x : Later w) : x.at.cell? a = some v := pw_cell_below x.below h
end Go.Proofs.Yteikgpdjfhdneaa.Man
namespace Go.Proofs.Yteikgpdjfhdneaa.Man
open Go.RowKit Go.Proofs.Yteikgpdjfhdneaa.QT Go.Proofs.YteikgpdjfhdneaaW.PrintWords Go.Proofs.YteikgpdjfhdneaaW.PrintLast Go.Proofs.YteikgpdjfhdneaaW.PrintMore
abbrev Pth := S78
abbrev Pce := S76
theorem rdP_at (ps : List Pth) (k : Nat) (h : k < ps.length) : rd_T78 ps (k : Int) = ps[k] := by simp [rd_T78, List.getD_eq_getElem?_getD, h]
theorem rdQ_at (ps : List Pce) (k : Nat) (h : k < ps.length) : rd_T76 ps (k : Int) = ps[k] := by simp [rd_T76, List.getD_eq_getElem?_getD, h]
theorem rdI_at (xs : List Int) (k : Nat) (h : k < xs.length) : rd xs (k : Int) = xs[k] := by simp [rd, List.getD_eq_getElem?_getD, h]
def mayF (a b : Int) : Bool := decide (0 ≤ a) && decide (a < b) && decide (b ≤ 4096)
def rateF (x : Int) : Bool := decide (0 ≤ x) && decide (x ≤ 4611686018427387904)
set_option maxHeartbeats 4000000 in
set_option maxRecDepth 100000 in
theorem may_is (a b : Int) (w : World) : Calls Try.prog 46 #[.agg #[.int .i64 a, .int .i64 b]] w fun e w' => e = .returned (.bool (mayF a b)) ∧ Below w.heap.size w w' := by
  unfold mayF
  cases h0 : decide (0 ≤ a)
  · go_enter Try.func46, Try.ntmps46
    go_wp2
    go_ret
    exact ⟨rfl, (Below.refl _ _).alloc (Nat.le_refl _) _⟩
  cases h1 : decide (a < b)
  all_goals
    go_enter Try.func46, Try.ntmps46
    go_wp2
    go_ret
    exact ⟨by first | rfl | simp, (Below.refl _ _).alloc (Nat.le_refl _) _⟩
theorem rate_is (x : Int) (w : World) : Calls Try.prog 45 #[.int .i64 x] w fun e w' => e = .returned (.bool (rateF x)) ∧ w' = w := by
  unfold rateF
  cases h0 : decide (0 ≤ x)
  · go_enter Try.func45, Try.ntmps45
    go_wp2
    go_ret
    exact ⟨by first | rfl | simp, rfl⟩
  cases h1 : decide (x ≤ 4611686018427387904)
  all_goals
    go_enter Try.func45, Try.ntmps45
    go_wp2
    go_ret
    exact ⟨by first | rfl | simp, rfl⟩
def linkF (l : Int) : Bool := decide (0 ≤ l) && decide (l < 16)
def pathF (p : Pth) : Bool := decide (0 < p.f0) && (rateF p.f0 && (decide (1 ≤ p.f1.length) && (decide (p.f1.length ≤ 16) && p.f1.all linkF)))
def LinksAt (w : World) (ls : List Int) (i : Value) (w' : World) : Prop := ∃ k : Nat, i = .int .i64 (k : Int) ∧ k ≤ ls.length ∧ ls.all linkF = (ls.drop k).all linkF ∧ w' = w
set_option maxHeartbeats 8000000 in
set_option maxRecDepth 100000 in
theorem pathMay_is (A : Option Addr) (c : Nat) (r : Int) (ls : List Int) (w : World) (hr : Kd.C (Kd.int .i64) w A ls.length ls) (hc : ls.length ≤ c) :
    Calls Try.prog 68 #[.agg #[.int .i64 r, .slice A ls.length c]] w fun e w' => e = .returned (.bool (pathF ⟨r, ls⟩)) ∧ Below w.heap.size w w' := by
  have HB0 : Hid (Below w.heap.size w (w.alloc (.cells #[.int .i64 r, .slice A ls.length c] 78))) := Lib.hid ((Below.refl _ _).alloc (Nat.le_refl _) _)
  have HR := Lib.hid (Kd.C_below hr HB0.out)
  obtain ⟨F, hF⟩ : ∃ F, pathF ⟨r, ls⟩ = F := ⟨_, rfl⟩
  rw [hF]
  have HF := Lib.hid hF
  clear hr hF
  by_cases h1 : 0 < r
  case neg =>
    have d1 : decide (r ≤ 0) = true := decide_eq_true (by omega)
    obtain rfl : F = false := by rw [← HF.out]; simp [pathF, h1]
    clear h1
    go_enter Try.func68, Try.ntmps68
    go_wp2
    exact bodyPost_ret (v := .bool false) (by simp [results, Try.results68, go_sem]) rfl ⟨rfl, HB0.out⟩
  have d1 : decide (r ≤ 0) = false := decide_eq_false (by omega)
  cases h2 : rateF r
  case false =>
    have H2 := Lib.hid h2
    obtain rfl : F = false := by rw [← HF.out]; simp [pathF, h2]
    clear h2
    go_enter Try.func68, Try.ntmps68
    go_wp2_with fail
    refine (rate_is r _).mono ?_
    rintro e w1 ⟨rfl, rfl⟩
    rw [H2.out]
    go_wp2
    exact bodyPost_ret (v := .bool false) (by simp [results, Try.results68, go_sem]) rfl ⟨rfl, HB0.out⟩
  have H2 := Lib.hid h2
  by_cases h3 : 1 ≤ ls.length
  case neg =>
    have d3 : decide ((ls.length : Int) < 1) = true := decide_eq_true (by omega)
    obtain rfl : F = false := by rw [← HF.out]; simp [pathF, h3]
    clear h2
    go_enter Try.func68, Try.ntmps68
    go_wp2_with fail
    refine (rate_is r _).mono ?_
    rintro e w1 ⟨rfl, rfl⟩
    rw [H2.out]
    go_wp2
    exact bodyPost_ret (v := .bool false) (by simp [results, Try.results68, go_sem]) rfl ⟨rfl, HB0.out⟩
  have d3 : decide ((ls.length : Int) < 1) = false := decide_eq_false (by omega)
  by_cases h4 : ls.length ≤ 16
  case neg =>
    have d4 : decide ((ls.length : Int) > 16) = true := decide_eq_true (by omega)
    obtain rfl : F = false := by rw [← HF.out]; simp [pathF, h4]
    clear h2
    go_enter Try.func68, Try.ntmps68
    go_wp2_with fail
    refine (rate_is r _).mono ?_
    rintro e w1 ⟨rfl, rfl⟩
    rw [H2.out]
    go_wp2
    exact bodyPost_ret (v := .bool false) (by simp [results, Try.results68, go_sem]) rfl ⟨rfl, HB0.out⟩
  have d4 : decide ((ls.length : Int) > 16) = false := decide_eq_false (by omega)
  have HFF : Hid (F = ls.all linkF) := Lib.hid (by rw [← HF.out]; simp [pathF, h1, h2, h3, h4])
  clear h2 h1
  go_enter Try.func68, Try.ntmps68
  go_wp2_with fail
  refine (rate_is r _).mono ?_
  rintro e w1 ⟨rfl, rfl⟩
  rw [H2.out]
  go_wp2_with fail
  go_loopw [29] (LinksAt (w.alloc (.cells #[.int .i64 r, .slice A ls.length c] 78)) ls) (fun i _ => ls.length - (intOf i).toNat)
  case atStart => exact ⟨0, rfl, Nat.zero_le _, by rw [List.drop_zero], rfl⟩
  case round =>
    obtain ⟨k, rfl, hk, hs, rfl⟩ := hrel
    have HS := Lib.hid hs
    clear hs
    by_cases hlt : k < ls.length
    · obtain ⟨ad, rfl, x0⟩ := Kd.at_int HR.out (k : Int) (by omega) (by omega)
      rw [rdI_at ls k hlt, Int.toNat_natCast] at x0
      have HD : Hid (ls.drop k = ls[k] :: ls.drop (k + 1)) := Lib.hid (List.drop_eq_getElem_cons hlt)
      generalize ls[k] = x at x0 HD
      have hd : decide ((k : Int) < (ls.length : Int)) = true := by simpa using hlt
      by_cases g1 : 0 ≤ x
      case neg =>
        have e1 : decide (x < 0) = true := decide_eq_true (by omega)
        have HX : Hid (F = false) := Lib.hid (by rw [HFF.out, HS.out, HD.out, List.all_cons]; simp [linkF, g1])
        clear g1
        go_wp2
        exact bodyPost_ret (v := .bool false) (by simp [results, Try.results68, go_sem]) rfl ⟨by rw [HX.out], HB0.out⟩
      have e1 : decide (x < 0) = false := decide_eq_false (by omega)
      by_cases g2 : x < 16
      case neg =>
        have e2 : decide (x ≥ 16) = true := decide_eq_true (by omega)
        have HX : Hid (F = false) := Lib.hid (by rw [HFF.out, HS.out, HD.out, List.all_cons]; simp [linkF, g2])
        clear g1 g2
        go_wp2
        exact bodyPost_ret (v := .bool false) (by simp [results, Try.results68, go_sem]) rfl ⟨by rw [HX.out], HB0.out⟩
      have e2 : decide (x ≥ 16) = false := decide_eq_false (by omega)
      have HX : Hid (ls.all linkF = (ls.drop (k + 1)).all linkF) := Lib.hid (by rw [HS.out, HD.out, List.all_cons]; simp [linkF, g1, g2])
      clear g1 g2
      go_wp2
      go_roundw
      case rel => exact ⟨k + 1, by go_num, by omega, HX.out, rfl⟩
      case measure => simp [intOf]; omega
    · have hd : decide ((k : Int) < (ls.length : Int)) = false := by simpa using hlt
      have HX : Hid (F = true) := Lib.hid (by rw [HFF.out, HS.out, List.drop_of_length_le (by omega)]; rfl)
      go_wp2
      exact bodyPost_ret (v := .bool true) (by simp [results, Try.results68, go_sem]) rfl ⟨by rw [HX.out], HB0.out⟩
def vertsL : Option Int → List Int → Bool
  | _, [] => true
  | p, v :: r => if (0 ≤ v ∧ v < 8) ∧ (∀ q, p = some q → q < v) then vertsL (some v) r else false
def vertsF (vs : List Int) : Bool := vertsL none vs && decide (0 < vs.length)
def before (vs : List Int) (k : Nat) : Option Int := if k = 0 then none else vs[k - 1]?
def VertsAt (w : World) (vs : List Int) (i : Value) (w' : World) : Prop := ∃ k : Nat, i = .int .i64 (k : Int) ∧ k ≤ vs.length ∧ vertsL none vs = vertsL (before vs k) (vs.drop k) ∧ w' = w
set_option maxHeartbeats 8000000 in
set_option maxRecDepth 100000 in
theorem vertsMay_is (A : Option Addr) (c : Nat) (vs : List Int) (w : World) (hr : Kd.C (Kd.int .i64) w A vs.length vs) (hc : vs.length ≤ c) (hl : vs.length ≤ 281474976710656) :
    Calls Try.prog 48 #[.slice A vs.length c] w fun e w' => e = .returned (.bool (vertsF vs)) ∧ w' = w := by
  have HR := Lib.hid hr
  obtain ⟨F, hF⟩ : ∃ F, vertsF vs = F := ⟨_, rfl⟩
  rw [hF]
  have HF := Lib.hid hF
  clear hr hF
  go_enter Try.func48, Try.ntmps48
  go_wp2_with fail
  go_loopw [7] (VertsAt w vs) (fun i _ => vs.length - (intOf i).toNat)
  case atStart => exact ⟨0, rfl, Nat.zero_le _, rfl, rfl⟩
  case round =>
    obtain ⟨k, rfl, hk, hs, rfl⟩ := hrel
    have HS := Lib.hid hs
    clear hs
    by_cases hlt : k < vs.length
    · obtain ⟨ad, rfl, x0⟩ := Kd.at_int HR.out (k : Int) (by omega) (by omega)
      rw [rdI_at vs k hlt, Int.toNat_natCast] at x0
      have HD : Hid (vs.drop k = vs[k] :: vs.drop (k + 1)) := Lib.hid (List.drop_eq_getElem_cons hlt)
      have HBF : Hid (before vs (k + 1) = some vs[k]) := Lib.hid (by unfold before; rw [if_neg (by omega), Nat.add_sub_cancel, List.getElem?_eq_getElem])
      have hd : decide ((k : Int) < (vs.length : Int)) = true := by simpa using hlt
      have bad : ¬ ((0 ≤ vs[k] ∧ vs[k] < 8) ∧ (∀ q, before vs k = some q → q < vs[k])) → F = false := fun hn => by
        rw [← HF.out]; unfold vertsF; rw [HS.out, HD.out, vertsL, if_neg hn]; rfl
      have good : ((0 ≤ vs[k] ∧ vs[k] < 8) ∧ (∀ q, before vs k = some q → q < vs[k])) → vertsL none vs = vertsL (before vs (k + 1)) (vs.drop (k + 1)) := fun hn => by
        rw [HS.out, HD.out, vertsL, if_pos hn, HBF.out]
      have HBAD := Lib.hid bad
      have HGOOD := Lib.hid good
      clear bad good
      rcases Nat.eq_zero_or_pos k with h0 | h0
      · subst h0
        generalize vs[0] = x at x0 HD HBAD HGOOD HBF
        have x0 : wr.cell? ad = some (.int .i64 x) := by simpa [Addr.add] using x0
        by_cases g1 : 0 ≤ x
        case neg =>
          have e1 : decide (x < 0) = true := decide_eq_true (by omega)
          have HX : Hid (F = false) := Lib.hid (HBAD.out (fun h => g1 h.1.1))
          clear g1
          go_wp2
          exact bodyPost_ret (v := .bool false) (by simp [results, Try.results48, go_sem]) rfl ⟨by rw [HX.out], rfl⟩
        have e1 : decide (x < 0) = false := decide_eq_false (by omega)
        by_cases g2 : x < 8
        case neg =>
          have e2 : decide (x ≥ 8) = true := decide_eq_true (by omega)
          have HX : Hid (F = false) := Lib.hid (HBAD.out (fun h => g2 h.1.2))
          clear g1 g2
          go_wp2
          exact bodyPost_ret (v := .bool false) (by simp [results, Try.results48, go_sem]) rfl ⟨by rw [HX.out], rfl⟩
        have e2 : decide (x ≥ 8) = false := decide_eq_false (by omega)
        have HX := Lib.hid (HGOOD.out ⟨⟨g1, g2⟩, fun q hq => by cases hq⟩)
        clear g1 g2
        go_wp2
        go_roundw
        case rel => exact ⟨1, by go_num, by omega, HX.out, rfl⟩
        case measure => simp [intOf]; omega
      obtain ⟨ad', e', y0⟩ := Kd.at_int HR.out ((k - 1 : Nat) : Int) (by omega) (by omega)
      injection e' with e'
      subst e'
      have hjl : k - 1 < vs.length := by omega
      rw [rdI_at vs (k - 1) hjl, Int.toNat_natCast] at y0
      have hbf : before vs k = some vs[k - 1] := by unfold before; rw [if_neg (by omega), List.getElem?_eq_getElem]
      rw [hbf] at HBAD HGOOD
      clear hbf
      generalize vs[k] = x at x0 HD HBAD HGOOD HBF
      generalize vs[k - 1] = y at y0 HBAD HGOOD
      have hk0 : decide ((k : Int) > 0) = true := decide_eq_true (by omega)
      have hk1 : (k : Int) - 1 = ((k - 1 : Nat) : Int) := by omega
      have hwj2 : IntKind.i64.wrap ((k - 1 : Nat) : Int) = ((k - 1 : Nat) : Int) := IntWalk.i64_in _ (by omega)
      have hj0 : (0 : Int) ≤ ((k - 1 : Nat) : Int) := by omega
      have hj1 : ((k - 1 : Nat) : Int) < (vs.length : Int) := by omega
      by_cases g1 : 0 ≤ x
      case neg =>
        have e1 : decide (x < 0) = true := decide_eq_true (by omega)
        have HX : Hid (F = false) := Lib.hid (HBAD.out (fun h => g1 h.1.1))
        clear g1
        go_wp2
        exact bodyPost_ret (v := .bool false) (by simp [results, Try.results48, go_sem]) rfl ⟨by rw [HX.out], rfl⟩
      have e1 : decide (x < 0) = false := decide_eq_false (by omega)
      by_cases g2 : x < 8
      case neg =>
        have e2 : decide (x ≥ 8) = true := decide_eq_true (by omega)
        have HX : Hid (F = false) := Lib.hid (HBAD.out (fun h => g2 h.1.2))
        clear g1 g2
        go_wp2
        exact bodyPost_ret (v := .bool false) (by simp [results, Try.results48, go_sem]) rfl ⟨by rw [HX.out], rfl⟩
      have e2 : decide (x ≥ 8) = false := decide_eq_false (by omega)
      by_cases g3 : y < x
      case neg =>
        have e3 : decide (x ≤ y) = true := decide_eq_true (by omega)
        have HX : Hid (F = false) := Lib.hid (HBAD.out (fun h => g3 (h.2 y rfl)))
        clear g1 g2 g3
        go_wp2
        exact bodyPost_ret (v := .bool false) (by simp [results, Try.results48, go_sem]) rfl ⟨by rw [HX.out], rfl⟩
      have e3 : decide (x ≤ y) = false := decide_eq_false (by omega)
      have HX := Lib.hid (HGOOD.out ⟨⟨g1, g2⟩, fun q hq => by injection hq with hq; omega⟩)
      clear g1 g2 g3
      go_wp2
      go_roundw
      case rel => exact ⟨k + 1, by go_num, by omega, HX.out, rfl⟩
      case measure => simp [intOf]; omega
    · have hd : decide ((k : Int) < (vs.length : Int)) = false := by simpa using hlt
      have HX : Hid (F = decide (0 < vs.length)) := Lib.hid (by rw [← HF.out]; unfold vertsF; rw [HS.out, List.drop_of_length_le (by omega), vertsL, Bool.true_and])
      have hdz : decide ((vs.length : Int) > 0) = decide (0 < vs.length) := by rw [decide_eq_decide]; omega
      obtain ⟨z, hz⟩ : ∃ z, decide (0 < vs.length) = z := ⟨_, rfl⟩
      rw [hz] at HX hdz
      go_wp2
      exact bodyPost_ret (v := .bool z) (by simp [results, Try.results48, go_sem, hz]) rfl ⟨by rw [HX.out], rfl⟩
end Go.Proofs.Yteikgpdjfhdneaa.Man
namespace Go.Proofs.Yteikgpdjfhdneaa.Man
open Go.RowKit Go.Proofs.Yteikgpdjfhdneaa.QT Go.Proofs.YteikgpdjfhdneaaW.PrintWords Go.Proofs.YteikgpdjfhdneaaW.PrintLast Go.Proofs.YteikgpdjfhdneaaW.PrintMore
def pieceOK (at_ : Int) (p : Pce) : Prop := (mayF p.f0.f0 p.f0.f1 = true ∧ p.f0.f0 = at_) ∧ (1 ≤ p.f1.length ∧ p.f1.length ≤ 16) ∧ p.f1.all pathF = true
instance (at_ : Int) (p : Pce) : Decidable (pieceOK at_ p) := by unfold pieceOK; exact inferInstance
def piecesL (b : Int) : Int → List Pce → Bool
  | at_, [] => decide (at_ = b)
  | at_, p :: r => if pieceOK at_ p then piecesL b p.f0.f1 r else false
def piecesF (a b : Int) (ps : List Pce) : Bool := decide (1 ≤ ps.length) && (decide (ps.length ≤ 8) && piecesL b a ps)
def PiecesAt (w : World) (a b : Int) (ps : List Pce) (at_ i : Value) (w' : World) : Prop := ∃ (k : Nat) (t : Int), i = .int .i64 (k : Int) ∧ at_ = .int .i64 t ∧ k ≤ ps.length ∧ piecesL b a ps = piecesL b t (ps.drop k) ∧ Below w.heap.size w w' ∧ w'.heap[w.heap.size]? = some (.cells #[.int .i64 a, .int .i64 b] 42 (0, 0))
def PathsAt (w2 : World) (qs : List Pth) (i : Value) (w' : World) : Prop := ∃ k : Nat, i = .int .i64 (k : Int) ∧ k ≤ qs.length ∧ qs.all pathF = (qs.drop k).all pathF ∧ Below w2.heap.size w2 w'
set_option maxHeartbeats 16000000 in
set_option maxRecDepth 100000 in
theorem piecesMay_is (A : Option Addr) (c : Nat) (a b : Int) (ps : List Pce) (w : World) (hr : Kd.C k76 w A ps.length ps) (hc : ps.length ≤ c) :
    Calls Try.prog 47 #[.agg #[.int .i64 a, .int .i64 b], .slice A ps.length c] w fun e w' => e = .returned (.bool (piecesF a b ps)) ∧ Below w.heap.size w w' := by
  have HB0 : Hid (Below w.heap.size w (w.alloc (.cells #[.int .i64 a, .int .i64 b] 42))) := Lib.hid ((Below.refl _ _).alloc (Nat.le_refl _) _)
  have HR := Lib.hid hr
  obtain ⟨F, hF⟩ : ∃ F, piecesF a b ps = F := ⟨_, rfl⟩
  rw [hF]
  have HF := Lib.hid hF
  clear hr hF
  by_cases h1 : 1 ≤ ps.length
  case neg =>
    have d1 : decide ((ps.length : Int) < 1) = true := decide_eq_true (by omega)
    obtain rfl : F = false := by rw [← HF.out]; simp [piecesF, h1]
    go_enter Try.func47, Try.ntmps47
    go_wp2
    exact bodyPost_ret (v := .bool false) (by simp [results, Try.results47, go_sem]) rfl ⟨rfl, HB0.out⟩
  have d1 : decide ((ps.length : Int) < 1) = false := decide_eq_false (by omega)
  by_cases h2 : ps.length ≤ 8
  case neg =>
    have d2 : decide ((ps.length : Int) > 8) = true := decide_eq_true (by omega)
    obtain rfl : F = false := by rw [← HF.out]; simp [piecesF, h2]
    go_enter Try.func47, Try.ntmps47
    go_wp2
    exact bodyPost_ret (v := .bool false) (by simp [results, Try.results47, go_sem]) rfl ⟨rfl, HB0.out⟩
  have d2 : decide ((ps.length : Int) > 8) = false := decide_eq_false (by omega)
  have HFF : Hid (F = piecesL b a ps) := Lib.hid (by rw [← HF.out]; simp [piecesF, h1, h2])
  go_enter Try.func47, Try.ntmps47
  go_wp2_with fail
  go_loopw [5, 22] (PiecesAt w a b ps) (fun _ i _ => ps.length - (intOf i).toNat)
  case atStart => exact ⟨0, a, rfl, rfl, Nat.zero_le _, rfl, HB0.out, blk_new _ _⟩
  case round =>
    obtain ⟨k, t, rfl, rfl, hk, hs, hb, hx⟩ := hrel
    have HS := Lib.hid hs
    have HB := Lib.hid hb
    have HX := Lib.hid hx
    clear hs hb hx
    by_cases hlt : k < ps.length
    · have HCP := Lib.hid (Kd.C_below HR.out HB.out)
      obtain ⟨ad, A2, c2, rfl, x0, x1, x2, hc2, hC2⟩ := at_T76 HCP.out (k : Int) (by omega) (by omega)
      have HD : Hid (ps.drop k = ps[k] :: ps.drop (k + 1)) := Lib.hid (List.drop_eq_getElem_cons hlt)
      rw [rdQ_at ps k hlt, Int.toNat_natCast] at x0 x1
      rw [rdQ_at ps k hlt, Int.toNat_natCast] at x2
      rw [rdQ_at ps k hlt] at hc2 hC2
      have HC2 := Lib.hid hC2
      generalize ps[k] = p at x0 x1 x2 hc2 HC2 HD
      clear hC2
      have HBX : Hid (Below w.heap.size w (wr.alloc (.cells #[.int .i64 p.f0.f0, .int .i64 p.f0.f1, .slice A2 p.f1.length c2] 76))) := Lib.hid (HB.out.alloc HB.out.size _)
      have hd : decide ((k : Int) < (ps.length : Int)) = true := by simpa using hlt
      have bad : ¬ pieceOK t p → F = false := fun hn => by rw [HFF.out, HS.out, HD.out, piecesL, if_neg hn]
      have HBAD := Lib.hid bad
      have HGOOD : Hid (pieceOK t p → piecesL b a ps = piecesL b p.f0.f1 (ps.drop (k + 1))) := Lib.hid (fun hn => by rw [HS.out, HD.out, piecesL, if_pos hn])
      clear bad
      obtain ⟨m, hm⟩ : ∃ m, mayF p.f0.f0 p.f0.f1 = m := ⟨_, rfl⟩
      have HMC : Hid (∀ W, Calls Try.prog 46 #[.agg #[.int .i64 p.f0.f0, .int .i64 p.f0.f1]] W fun e w' => e = .returned (.bool m) ∧ Below W.heap.size W w') := Lib.hid (fun W => by rw [← hm]; exact may_is _ _ W)
      have HM := Lib.hid hm
      clear hm
      cases m with
      | false =>
        have HFB : Hid (F = false) := Lib.hid (HBAD.out (fun h => by have := h.1.1; rw [HM.out] at this; cases this))
        go_wp2_with fail
        refine (HMC.out _).mono ?_
        rintro e w1 ⟨rfl, hb1⟩
        have HB1 := Lib.hid (below_then HBX.out HBX.out.size hb1)
        clear hb1
        go_wp2
        exact bodyPost_ret (v := .bool false) (by simp [results, Try.results47, go_sem]) rfl ⟨by rw [HFB.out], HB1.out⟩
      | true =>
        go_wp2_with fail
        refine (HMC.out _).mono ?_
        rintro e w1 ⟨rfl, hb1⟩
        have HB1 := Lib.hid (below_then HBX.out HBX.out.size hb1)
        have hq := blk_below (blk_new wr (.cells #[.int .i64 p.f0.f0, .int .i64 p.f0.f1, .slice A2 p.f1.length c2] 76 (0, 0))) hb1
        have HQ := Lib.hid hq
        have HX1 := Lib.hid (blk_below (blk_alloc HX.out _) hb1)
        have HC3 := Lib.hid (Kd.C_below (Kd.C_below HC2.out ((Below.refl _ _).alloc (Nat.le_refl _) (.cells #[.int .i64 p.f0.f0, .int .i64 p.f0.f1, .slice A2 p.f1.length c2] 76))) hb1)
        have q0 := blk_cell hq 0
        have q1 := blk_cell hq 1
        have q2 := blk_cell hq 2
        simp at q0 q1 q2
        clear hb1 hq x0 x1 x2
        by_cases g1 : p.f0.f0 = t
        case neg =>
          have e1 : (p.f0.f0 != t) = true := by simpa using g1
          have HFB : Hid (F = false) := Lib.hid (HBAD.out (fun h => g1 h.1.2))
          clear g1
          go_wp2
          exact bodyPost_ret (v := .bool false) (by simp [results, Try.results47, go_sem]) rfl ⟨by rw [HFB.out], HB1.out⟩
        have e1 : (p.f0.f0 != t) = false := by simpa using g1
        by_cases g2 : 1 ≤ p.f1.length
        case neg =>
          have e2 : decide ((p.f1.length : Int) < 1) = true := decide_eq_true (by omega)
          have HFB : Hid (F = false) := Lib.hid (HBAD.out (fun h => g2 h.2.1.1))
          clear g1
          go_wp2
          exact bodyPost_ret (v := .bool false) (by simp [results, Try.results47, go_sem]) rfl ⟨by rw [HFB.out], HB1.out⟩
        have e2 : decide ((p.f1.length : Int) < 1) = false := decide_eq_false (by omega)
        by_cases g3 : p.f1.length ≤ 16
        case neg =>
          have e3 : decide ((p.f1.length : Int) > 16) = true := decide_eq_true (by omega)
          have HFB : Hid (F = false) := Lib.hid (HBAD.out (fun h => g3 h.2.1.2))
          clear g1
          go_wp2
          exact bodyPost_ret (v := .bool false) (by simp [results, Try.results47, go_sem]) rfl ⟨by rw [HFB.out], HB1.out⟩
        have e3 : decide ((p.f1.length : Int) > 16) = false := decide_eq_false (by omega)
        have HG1 := Lib.hid g1
        clear g1
        go_wp2_with fail
        go_loopw [52] (PathsAt w1 p.f1) (fun i _ => p.f1.length - (intOf i).toNat)
        case atStart => exact ⟨0, rfl, Nat.zero_le _, by rw [List.drop_zero], Below.refl _ _⟩
        case round =>
          obtain ⟨j, rfl, hj, hjs, hjb⟩ := hrel
          have HJS := Lib.hid hjs
          have HJB := Lib.hid hjb
          have HBJ := Lib.hid (below_then HB1.out HB1.out.size hjb)
          clear hjs hjb q0 q1 q2
          by_cases hjl : j < p.f1.length
          · have HC4 := Lib.hid (Kd.C_below HC3.out HJB.out)
            obtain ⟨ad4, A4, c4, rfl, y0, y1, hc4, hC4⟩ := at_T78 HC4.out (j : Int) (by omega) (by omega)
            have HDJ : Hid (p.f1.drop j = p.f1[j] :: p.f1.drop (j + 1)) := Lib.hid (List.drop_eq_getElem_cons hjl)
            rw [rdP_at p.f1 j hjl, Int.toNat_natCast] at y0
            rw [rdP_at p.f1 j hjl, Int.toNat_natCast] at y1
            rw [rdP_at p.f1 j hjl] at hc4 hC4
            have HC5 := Lib.hid hC4
            generalize p.f1[j] = q at y0 y1 hc4 HC5 HDJ
            clear hC4
            have hdj : decide ((j : Int) < (p.f1.length : Int)) = true := by simpa using hjl
            have HBY : Hid (Below w1.heap.size w1 (wr.alloc (.cells #[.int .i64 q.f0, .slice A4 q.f1.length c4] 78))) := Lib.hid (HJB.out.alloc HJB.out.size _)
            obtain ⟨pm, hpm⟩ : ∃ pm, pathF q = pm := ⟨_, rfl⟩
            have HPC := Lib.hid (pathMay_is A4 c4 q.f0 q.f1 (wr.alloc (.cells #[.int .i64 q.f0, .slice A4 q.f1.length c4] 78)) (Kd.C_below HC5.out ((Below.refl _ _).alloc (Nat.le_refl _) _)) hc4)
            have hq' : pathF ⟨q.f0, q.f1⟩ = pm := hpm
            rw [hq'] at HPC
            have HPM := Lib.hid hpm
            clear hpm hq'
            go_wp2_with fail
            refine HPC.out.mono ?_
            rintro e w5 ⟨rfl, hb5⟩
            have HB5 := Lib.hid (below_then HBY.out HBY.out.size hb5)
            clear hb5 y0 y1
            cases pm with
            | false =>
              have HFB : Hid (F = false) := Lib.hid (HBAD.out (fun h => by
                have := h.2.2
                rw [HJS.out, HDJ.out, List.all_cons, HPM.out] at this
                cases this))
              go_wp2
              exact bodyPost_ret (v := .bool false) (by simp [results, Try.results47, go_sem]) rfl ⟨by rw [HFB.out], below_then HB1.out HB1.out.size HB5.out⟩
            | true =>
              have HNX : Hid (p.f1.all pathF = (p.f1.drop (j + 1)).all pathF) := Lib.hid (by rw [HJS.out, HDJ.out, List.all_cons, HPM.out, Bool.true_and])
              go_wp2
              go_roundw
              case rel => exact ⟨j + 1, by go_num, by omega, HNX.out, HB5.out⟩
              case measure => simp [intOf]; omega
          · have hdj : decide ((j : Int) < (p.f1.length : Int)) = false := by simpa using hjl
            have HNX : Hid (piecesL b a ps = piecesL b p.f0.f1 (ps.drop (k + 1))) := Lib.hid (HGOOD.out ⟨⟨HM.out, HG1.out⟩, ⟨g2, g3⟩, by rw [HJS.out, List.drop_of_length_le (by omega)]; rfl⟩)
            have HQ2 := Lib.hid (blk_below HQ.out HJB.out)
            have HX2 := Lib.hid (blk_below HX1.out HJB.out)
            have q1 := blk_cell HQ2.out 1
            simp at q1
            go_wp2
            go_roundw
            case rel => exact ⟨k + 1, p.f0.f1, by go_num, rfl, by omega, HNX.out, HBJ.out, HX2.out⟩
            case measure => simp [intOf]; omega
    · have hd : decide ((k : Int) < (ps.length : Int)) = false := by simpa using hlt
      have HFE : Hid (F = decide (t = b)) := Lib.hid (by rw [HFF.out, HS.out, List.drop_of_length_le (by omega), piecesL])
      have c1 := blk_cell HX.out 1
      simp at c1
      obtain ⟨z, hz⟩ : ∃ z, decide (t = b) = z := ⟨_, rfl⟩
      rw [hz] at HFE
      have hzz : (t == b) = z := by rw [← hz]; rfl
      clear hz
      go_wp2
      exact bodyPost_ret (v := .bool z) (by simp [results, Try.results47, go_sem, hzz]) rfl ⟨by rw [HFE.out], HB.out⟩
end Go.Proofs.Yteikgpdjfhdneaa.Man
namespace Go.Proofs.Yteikgpdjfhdneaa.Man
open Go.RowKit Go.Proofs.Yteikgpdjfhdneaa.QT Go.Proofs.YteikgpdjfhdneaaW.PrintWords Go.Proofs.YteikgpdjfhdneaaW.PrintLast Go.Proofs.YteikgpdjfhdneaaW.PrintMore
set_option maxHeartbeats 16000000 in
set_option maxRecDepth 100000 in
theorem plain_1 (fr to_ at_ code id rate value : Int) (A1 A2 : Option Addr) (n1 c1 n2 c2 : Nat) (w : World) :
    Calls Try.prog 67 #[.agg #[.int .i64 fr, .int .i64 to_, .int .i64 at_, .slice A1 n1 c1, .int .i64 1, .int .i64 code, .int .i64 id, .int .i64 rate, .int .i64 value, .slice A2 n2 c2]] w fun e w' => e = .returned (.agg #[.int .i64 0, .int .i64 0, .int .i64 0, .slice none 0 0, .int .i64 1, .int .i64 code, .int .i64 0, .int .i64 0, .int .i64 0, .slice none 0 0]) ∧ Below w.heap.size w w' := by
  go_enter Try.func67, Try.ntmps67
  go_wp2
  exact bodyPost_ret (v := .agg #[.int .i64 0, .int .i64 0, .int .i64 0, .slice none 0 0, .int .i64 1, .int .i64 code, .int .i64 0, .int .i64 0, .int .i64 0, .slice none 0 0]) (by simp [results, Try.results67, go_sem]) rfl ⟨rfl, (((Below.refl _ _).alloc (Nat.le_refl _) _).alloc (by simp) _).alloc (by simp; omega) _⟩
set_option maxHeartbeats 16000000 in
set_option maxRecDepth 100000 in
theorem plain_2 (fr to_ at_ code id rate value : Int) (A1 A2 : Option Addr) (n1 c1 n2 c2 : Nat) (w : World) :
    Calls Try.prog 67 #[.agg #[.int .i64 fr, .int .i64 to_, .int .i64 at_, .slice A1 n1 c1, .int .i64 2, .int .i64 code, .int .i64 id, .int .i64 rate, .int .i64 value, .slice A2 n2 c2]] w fun e w' => e = .returned (.agg #[.int .i64 fr, .int .i64 to_, .int .i64 0, .slice none 0 0, .int .i64 2, .int .i64 0, .int .i64 id, .int .i64 rate, .int .i64 0, .slice A2 n2 c2]) ∧ Below w.heap.size w w' := by
  go_enter Try.func67, Try.ntmps67
  go_wp2
  go_region
  go_wp2
  exact bodyPost_ret (v := .agg #[.int .i64 fr, .int .i64 to_, .int .i64 0, .slice none 0 0, .int .i64 2, .int .i64 0, .int .i64 id, .int .i64 rate, .int .i64 0, .slice A2 n2 c2]) (by simp [results, Try.results67, go_sem]) rfl ⟨rfl, below_drew ((((Below.refl _ _).alloc (Nat.le_refl _) _).alloc (by simp) _).alloc (by simp; omega) _)⟩
set_option maxHeartbeats 16000000 in
set_option maxRecDepth 100000 in
theorem plain_3 (fr to_ at_ code id rate value : Int) (A1 A2 : Option Addr) (n1 c1 n2 c2 : Nat) (w : World) :
    Calls Try.prog 67 #[.agg #[.int .i64 fr, .int .i64 to_, .int .i64 at_, .slice A1 n1 c1, .int .i64 3, .int .i64 code, .int .i64 id, .int .i64 rate, .int .i64 value, .slice A2 n2 c2]] w fun e w' => e = .returned (.agg #[.int .i64 0, .int .i64 0, .int .i64 at_, .slice A1 n1 c1, .int .i64 3, .int .i64 0, .int .i64 0, .int .i64 0, .int .i64 0, .slice none 0 0]) ∧ Below w.heap.size w w' := by
  go_enter Try.func67, Try.ntmps67
  go_wp2
  exact bodyPost_ret (v := .agg #[.int .i64 0, .int .i64 0, .int .i64 at_, .slice A1 n1 c1, .int .i64 3, .int .i64 0, .int .i64 0, .int .i64 0, .int .i64 0, .slice none 0 0]) (by simp [results, Try.results67, go_sem]) rfl ⟨rfl, (((Below.refl _ _).alloc (Nat.le_refl _) _).alloc (by simp) _).alloc (by simp; omega) _⟩
set_option maxHeartbeats 16000000 in
set_option maxRecDepth 100000 in
theorem plain_5 (fr to_ at_ code id rate value : Int) (A1 A2 : Option Addr) (n1 c1 n2 c2 : Nat) (w : World) :
    Calls Try.prog 67 #[.agg #[.int .i64 fr, .int .i64 to_, .int .i64 at_, .slice A1 n1 c1, .int .i64 5, .int .i64 code, .int .i64 id, .int .i64 rate, .int .i64 value, .slice A2 n2 c2]] w fun e w' => e = .returned (.agg #[.int .i64 0, .int .i64 0, .int .i64 0, .slice none 0 0, .int .i64 5, .int .i64 0, .int .i64 0, .int .i64 0, .int .i64 value, .slice none 0 0]) ∧ Below w.heap.size w w' := by
  go_enter Try.func67, Try.ntmps67
  go_wp2
  exact bodyPost_ret (v := .agg #[.int .i64 0, .int .i64 0, .int .i64 0, .slice none 0 0, .int .i64 5, .int .i64 0, .int .i64 0, .int .i64 0, .int .i64 value, .slice none 0 0]) (by simp [results, Try.results67, go_sem]) rfl ⟨rfl, (((Below.refl _ _).alloc (Nat.le_refl _) _).alloc (by simp) _).alloc (by simp; omega) _⟩
set_option maxHeartbeats 16000000 in
set_option maxRecDepth 100000 in
theorem plain_0 (fr to_ at_ kind code id rate value : Int) (A1 A2 : Option Addr) (n1 c1 n2 c2 : Nat) (w : World) (h1 : (kind == 1) = false) (h2 : (kind == 2) = false) (h3 : (kind == 3) = false) (h5 : (kind == 5) = false) :
    Calls Try.prog 67 #[.agg #[.int .i64 fr, .int .i64 to_, .int .i64 at_, .slice A1 n1 c1, .int .i64 kind, .int .i64 code, .int .i64 id, .int .i64 rate, .int .i64 value, .slice A2 n2 c2]] w fun e w' => e = .returned (.agg #[.int .i64 0, .int .i64 0, .int .i64 0, .slice none 0 0, .int .i64 kind, .int .i64 0, .int .i64 0, .int .i64 0, .int .i64 0, .slice none 0 0]) ∧ Below w.heap.size w w' := by
  go_enter Try.func67, Try.ntmps67
  go_wp2
  exact bodyPost_ret (v := .agg #[.int .i64 0, .int .i64 0, .int .i64 0, .slice none 0 0, .int .i64 kind, .int .i64 0, .int .i64 0, .int .i64 0, .int .i64 0, .slice none 0 0]) (by simp [results, Try.results67, go_sem]) rfl ⟨rfl, (((Below.refl _ _).alloc (Nat.le_refl _) _).alloc (by simp) _).alloc (by simp; omega) _⟩
attribute [local go_sem high] eqA42
def samePl (fr to_ at_ : Int) (n1 : Nat) (code id rate value : Int) (n2 : Nat) (fr' to' at' : Int) (m1 : Nat) (code' id' rate' value' : Int) (m2 : Nat) : Bool := ((fr' == fr && to' == to_) && ((at' == at_) && (((m1 : Int) == (n1 : Int)) && ((code' == code) && ((id' == id) && ((rate' == rate) && ((value' == value) && ((m2 : Int) == (n2 : Int)))))))))
set_option maxHeartbeats 32000000 in
set_option maxRecDepth 100000 in
theorem isPlain_of (fr to_ at_ kind code id rate value : Int) (A1 A2 : Option Addr) (n1 c1 n2 c2 : Nat) (fr' to' at' kind' code' id' rate' value' : Int) (B1 B2 : Option Addr) (m1 d1 m2 d2 : Nat) (w : World)
    (hp : ∀ W, Calls Try.prog 67 #[.agg #[.int .i64 fr, .int .i64 to_, .int .i64 at_, .slice A1 n1 c1, .int .i64 kind, .int .i64 code, .int .i64 id, .int .i64 rate, .int .i64 value, .slice A2 n2 c2]] W fun e w' => e = .returned (.agg #[.int .i64 fr', .int .i64 to', .int .i64 at', .slice B1 m1 d1, .int .i64 kind', .int .i64 code', .int .i64 id', .int .i64 rate', .int .i64 value', .slice B2 m2 d2]) ∧ Below W.heap.size W w') :
    Calls Try.prog 44 #[.agg #[.int .i64 fr, .int .i64 to_, .int .i64 at_, .slice A1 n1 c1, .int .i64 kind, .int .i64 code, .int .i64 id, .int .i64 rate, .int .i64 value, .slice A2 n2 c2]] w fun e w' => e = .returned (.bool (samePl fr to_ at_ n1 code id rate value n2 fr' to' at' m1 code' id' rate' value' m2)) ∧ Below w.heap.size w w' := by
  have HP := Lib.hid hp
  clear hp
  have HB0 : Hid (Below w.heap.size w (w.alloc (.cells #[.int .i64 fr, .int .i64 to_, .int .i64 at_, .slice A1 n1 c1, .int .i64 kind, .int .i64 code, .int .i64 id, .int .i64 rate, .int .i64 value, .slice A2 n2 c2] 48))) := Lib.hid ((Below.refl _ _).alloc (Nat.le_refl _) _)
  obtain ⟨F, hF⟩ : ∃ F, samePl fr to_ at_ n1 code id rate value n2 fr' to' at' m1 code' id' rate' value' m2 = F := ⟨_, rfl⟩
  rw [hF]
  have HF := Lib.hid hF
  clear hF
  cases h0 : (fr' == fr && to' == to_)
  case false =>
    have HFF : Hid (F = false) := Lib.hid (by rw [← HF.out]; unfold samePl; simp only [h0, Bool.false_and, Bool.and_false, Bool.true_and])
    go_enter Try.func44, Try.ntmps44
    go_wp2_with fail
    refine (HP.out _).mono ?_
    rintro e w1 ⟨rfl, hb1⟩
    have HB1 := Lib.hid (below_then HB0.out HB0.out.size hb1)
    have hx := blk_below (blk_new w (.cells #[.int .i64 fr, .int .i64 to_, .int .i64 at_, .slice A1 n1 c1, .int .i64 kind, .int .i64 code, .int .i64 id, .int .i64 rate, .int .i64 value, .slice A2 n2 c2] 48 (0, 0))) hb1
    have x0 := blk_cell hx 0
    have x1 := blk_cell hx 1
    have x2 := blk_cell hx 2
    have x3 := blk_cell hx 3
    have x4 := blk_cell hx 4
    have x5 := blk_cell hx 5
    have x6 := blk_cell hx 6
    have x7 := blk_cell hx 7
    have x8 := blk_cell hx 8
    have x9 := blk_cell hx 9
    simp at x0 x1 x2 x3 x4 x5 x6 x7 x8 x9
    have hal : ∀ (o : Obj) (j : Nat) (v : Value), w1.cell? ⟨w.heap.size, j, none⟩ = some v → (w1.alloc o).cell? ⟨w.heap.size, j, none⟩ = some v := fun o j v h => Lib.cell?_alloc_some o h
    have y0 := fun o => hal o 0 _ x0
    have y1 := fun o => hal o 1 _ x1
    have y2 := fun o => hal o 2 _ x2
    have y3 := fun o => hal o 3 _ x3
    have y4 := fun o => hal o 4 _ x4
    have y5 := fun o => hal o 5 _ x5
    have y6 := fun o => hal o 6 _ x6
    have y7 := fun o => hal o 7 _ x7
    have y8 := fun o => hal o 8 _ x8
    have y9 := fun o => hal o 9 _ x9
    clear hb1 hx hal
    go_wp2
    exact bodyPost_ret (v := .bool false) (by simp [results, Try.results44, go_sem]) rfl ⟨by rw [HFF.out], HB1.out.alloc HB1.out.size _⟩
  cases h1 : (at' == at_)
  case false =>
    have HFF : Hid (F = false) := Lib.hid (by rw [← HF.out]; unfold samePl; simp only [h0, h1, Bool.false_and, Bool.and_false, Bool.true_and])
    go_enter Try.func44, Try.ntmps44
    go_wp2_with fail
    refine (HP.out _).mono ?_
    rintro e w1 ⟨rfl, hb1⟩
    have HB1 := Lib.hid (below_then HB0.out HB0.out.size hb1)
    have hx := blk_below (blk_new w (.cells #[.int .i64 fr, .int .i64 to_, .int .i64 at_, .slice A1 n1 c1, .int .i64 kind, .int .i64 code, .int .i64 id, .int .i64 rate, .int .i64 value, .slice A2 n2 c2] 48 (0, 0))) hb1
    have x0 := blk_cell hx 0
    have x1 := blk_cell hx 1
    have x2 := blk_cell hx 2
    have x3 := blk_cell hx 3
    have x4 := blk_cell hx 4
    have x5 := blk_cell hx 5
    have x6 := blk_cell hx 6
    have x7 := blk_cell hx 7
    have x8 := blk_cell hx 8
    have x9 := blk_cell hx 9
    simp at x0 x1 x2 x3 x4 x5 x6 x7 x8 x9
    have hal : ∀ (o : Obj) (j : Nat) (v : Value), w1.cell? ⟨w.heap.size, j, none⟩ = some v → (w1.alloc o).cell? ⟨w.heap.size, j, none⟩ = some v := fun o j v h => Lib.cell?_alloc_some o h
    have y0 := fun o => hal o 0 _ x0
    have y1 := fun o => hal o 1 _ x1
    have y2 := fun o => hal o 2 _ x2
    have y3 := fun o => hal o 3 _ x3
    have y4 := fun o => hal o 4 _ x4
    have y5 := fun o => hal o 5 _ x5
    have y6 := fun o => hal o 6 _ x6
    have y7 := fun o => hal o 7 _ x7
    have y8 := fun o => hal o 8 _ x8
    have y9 := fun o => hal o 9 _ x9
    clear hb1 hx hal
    go_wp2
    exact bodyPost_ret (v := .bool false) (by simp [results, Try.results44, go_sem]) rfl ⟨by rw [HFF.out], HB1.out.alloc HB1.out.size _⟩
  cases h2 : ((m1 : Int) == (n1 : Int))
  case false =>
    have g2 : (m1 == n1) = false := by rw [← h2]; rw [Bool.eq_iff_iff]; simp; omega
    have HFF : Hid (F = false) := Lib.hid (by rw [← HF.out]; unfold samePl; simp only [h0, h1, h2, Bool.false_and, Bool.and_false, Bool.true_and])
    go_enter Try.func44, Try.ntmps44
    go_wp2_with fail
    refine (HP.out _).mono ?_
    rintro e w1 ⟨rfl, hb1⟩
    have HB1 := Lib.hid (below_then HB0.out HB0.out.size hb1)
    have hx := blk_below (blk_new w (.cells #[.int .i64 fr, .int .i64 to_, .int .i64 at_, .slice A1 n1 c1, .int .i64 kind, .int .i64 code, .int .i64 id, .int .i64 rate, .int .i64 value, .slice A2 n2 c2] 48 (0, 0))) hb1
    have x0 := blk_cell hx 0
    have x1 := blk_cell hx 1
    have x2 := blk_cell hx 2
    have x3 := blk_cell hx 3
    have x4 := blk_cell hx 4
    have x5 := blk_cell hx 5
    have x6 := blk_cell hx 6
    have x7 := blk_cell hx 7
    have x8 := blk_cell hx 8
    have x9 := blk_cell hx 9
    simp at x0 x1 x2 x3 x4 x5 x6 x7 x8 x9
    have hal : ∀ (o : Obj) (j : Nat) (v : Value), w1.cell? ⟨w.heap.size, j, none⟩ = some v → (w1.alloc o).cell? ⟨w.heap.size, j, none⟩ = some v := fun o j v h => Lib.cell?_alloc_some o h
    have y0 := fun o => hal o 0 _ x0
    have y1 := fun o => hal o 1 _ x1
    have y2 := fun o => hal o 2 _ x2
    have y3 := fun o => hal o 3 _ x3
    have y4 := fun o => hal o 4 _ x4
    have y5 := fun o => hal o 5 _ x5
    have y6 := fun o => hal o 6 _ x6
    have y7 := fun o => hal o 7 _ x7
    have y8 := fun o => hal o 8 _ x8
    have y9 := fun o => hal o 9 _ x9
    clear hb1 hx hal
    go_wp2
    exact bodyPost_ret (v := .bool false) (by simp [results, Try.results44, go_sem]) rfl ⟨by rw [HFF.out], HB1.out.alloc HB1.out.size _⟩
  have g2 : (m1 == n1) = true := by rw [← h2]; rw [Bool.eq_iff_iff]; simp; omega
  cases h3 : (code' == code)
  case false =>
    have HFF : Hid (F = false) := Lib.hid (by rw [← HF.out]; unfold samePl; simp only [h0, h1, h2, h3, Bool.false_and, Bool.and_false, Bool.true_and])
    go_enter Try.func44, Try.ntmps44
    go_wp2_with fail
    refine (HP.out _).mono ?_
    rintro e w1 ⟨rfl, hb1⟩
    have HB1 := Lib.hid (below_then HB0.out HB0.out.size hb1)
    have hx := blk_below (blk_new w (.cells #[.int .i64 fr, .int .i64 to_, .int .i64 at_, .slice A1 n1 c1, .int .i64 kind, .int .i64 code, .int .i64 id, .int .i64 rate, .int .i64 value, .slice A2 n2 c2] 48 (0, 0))) hb1
    have x0 := blk_cell hx 0
    have x1 := blk_cell hx 1
    have x2 := blk_cell hx 2
    have x3 := blk_cell hx 3
    have x4 := blk_cell hx 4
    have x5 := blk_cell hx 5
    have x6 := blk_cell hx 6
    have x7 := blk_cell hx 7
    have x8 := blk_cell hx 8
    have x9 := blk_cell hx 9
    simp at x0 x1 x2 x3 x4 x5 x6 x7 x8 x9
    have hal : ∀ (o : Obj) (j : Nat) (v : Value), w1.cell? ⟨w.heap.size, j, none⟩ = some v → (w1.alloc o).cell? ⟨w.heap.size, j, none⟩ = some v := fun o j v h => Lib.cell?_alloc_some o h
    have y0 := fun o => hal o 0 _ x0
    have y1 := fun o => hal o 1 _ x1
    have y2 := fun o => hal o 2 _ x2
    have y3 := fun o => hal o 3 _ x3
    have y4 := fun o => hal o 4 _ x4
    have y5 := fun o => hal o 5 _ x5
    have y6 := fun o => hal o 6 _ x6
    have y7 := fun o => hal o 7 _ x7
    have y8 := fun o => hal o 8 _ x8
    have y9 := fun o => hal o 9 _ x9
    clear hb1 hx hal
    go_wp2
    exact bodyPost_ret (v := .bool false) (by simp [results, Try.results44, go_sem]) rfl ⟨by rw [HFF.out], HB1.out.alloc HB1.out.size _⟩
  cases h4 : (id' == id)
  case false =>
    have HFF : Hid (F = false) := Lib.hid (by rw [← HF.out]; unfold samePl; simp only [h0, h1, h2, h3, h4, Bool.false_and, Bool.and_false, Bool.true_and])
    go_enter Try.func44, Try.ntmps44
    go_wp2_with fail
    refine (HP.out _).mono ?_
    rintro e w1 ⟨rfl, hb1⟩
    have HB1 := Lib.hid (below_then HB0.out HB0.out.size hb1)
    have hx := blk_below (blk_new w (.cells #[.int .i64 fr, .int .i64 to_, .int .i64 at_, .slice A1 n1 c1, .int .i64 kind, .int .i64 code, .int .i64 id, .int .i64 rate, .int .i64 value, .slice A2 n2 c2] 48 (0, 0))) hb1
    have x0 := blk_cell hx 0
    have x1 := blk_cell hx 1
    have x2 := blk_cell hx 2
    have x3 := blk_cell hx 3
    have x4 := blk_cell hx 4
    have x5 := blk_cell hx 5
    have x6 := blk_cell hx 6
    have x7 := blk_cell hx 7
    have x8 := blk_cell hx 8
    have x9 := blk_cell hx 9
    simp at x0 x1 x2 x3 x4 x5 x6 x7 x8 x9
    have hal : ∀ (o : Obj) (j : Nat) (v : Value), w1.cell? ⟨w.heap.size, j, none⟩ = some v → (w1.alloc o).cell? ⟨w.heap.size, j, none⟩ = some v := fun o j v h => Lib.cell?_alloc_some o h
    have y0 := fun o => hal o 0 _ x0
    have y1 := fun o => hal o 1 _ x1
    have y2 := fun o => hal o 2 _ x2
    have y3 := fun o => hal o 3 _ x3
    have y4 := fun o => hal o 4 _ x4
    have y5 := fun o => hal o 5 _ x5
    have y6 := fun o => hal o 6 _ x6
    have y7 := fun o => hal o 7 _ x7
    have y8 := fun o => hal o 8 _ x8
    have y9 := fun o => hal o 9 _ x9
    clear hb1 hx hal
    go_wp2
    exact bodyPost_ret (v := .bool false) (by simp [results, Try.results44, go_sem]) rfl ⟨by rw [HFF.out], HB1.out.alloc HB1.out.size _⟩
  cases h5 : (rate' == rate)
  case false =>
    have HFF : Hid (F = false) := Lib.hid (by rw [← HF.out]; unfold samePl; simp only [h0, h1, h2, h3, h4, h5, Bool.false_and, Bool.and_false, Bool.true_and])
    go_enter Try.func44, Try.ntmps44
    go_wp2_with fail
    refine (HP.out _).mono ?_
    rintro e w1 ⟨rfl, hb1⟩
    have HB1 := Lib.hid (below_then HB0.out HB0.out.size hb1)
    have hx := blk_below (blk_new w (.cells #[.int .i64 fr, .int .i64 to_, .int .i64 at_, .slice A1 n1 c1, .int .i64 kind, .int .i64 code, .int .i64 id, .int .i64 rate, .int .i64 value, .slice A2 n2 c2] 48 (0, 0))) hb1
    have x0 := blk_cell hx 0
    have x1 := blk_cell hx 1
    have x2 := blk_cell hx 2
    have x3 := blk_cell hx 3
    have x4 := blk_cell hx 4
    have x5 := blk_cell hx 5
    have x6 := blk_cell hx 6
    have x7 := blk_cell hx 7
    have x8 := blk_cell hx 8
    have x9 := blk_cell hx 9
    simp at x0 x1 x2 x3 x4 x5 x6 x7 x8 x9
    have hal : ∀ (o : Obj) (j : Nat) (v : Value), w1.cell? ⟨w.heap.size, j, none⟩ = some v → (w1.alloc o).cell? ⟨w.heap.size, j, none⟩ = some v := fun o j v h => Lib.cell?_alloc_some o h
    have y0 := fun o => hal o 0 _ x0
    have y1 := fun o => hal o 1 _ x1
    have y2 := fun o => hal o 2 _ x2
    have y3 := fun o => hal o 3 _ x3
    have y4 := fun o => hal o 4 _ x4
    have y5 := fun o => hal o 5 _ x5
    have y6 := fun o => hal o 6 _ x6
    have y7 := fun o => hal o 7 _ x7
    have y8 := fun o => hal o 8 _ x8
    have y9 := fun o => hal o 9 _ x9
    clear hb1 hx hal
    go_wp2
    exact bodyPost_ret (v := .bool false) (by simp [results, Try.results44, go_sem]) rfl ⟨by rw [HFF.out], HB1.out.alloc HB1.out.size _⟩
  cases h6 : (value' == value)
  case false =>
    have HFF : Hid (F = false) := Lib.hid (by rw [← HF.out]; unfold samePl; simp only [h0, h1, h2, h3, h4, h5, h6, Bool.false_and, Bool.and_false, Bool.true_and])
    go_enter Try.func44, Try.ntmps44
    go_wp2_with fail
    refine (HP.out _).mono ?_
    rintro e w1 ⟨rfl, hb1⟩
    have HB1 := Lib.hid (below_then HB0.out HB0.out.size hb1)
    have hx := blk_below (blk_new w (.cells #[.int .i64 fr, .int .i64 to_, .int .i64 at_, .slice A1 n1 c1, .int .i64 kind, .int .i64 code, .int .i64 id, .int .i64 rate, .int .i64 value, .slice A2 n2 c2] 48 (0, 0))) hb1
    have x0 := blk_cell hx 0
    have x1 := blk_cell hx 1
    have x2 := blk_cell hx 2
    have x3 := blk_cell hx 3
    have x4 := blk_cell hx 4
    have x5 := blk_cell hx 5
    have x6 := blk_cell hx 6
    have x7 := blk_cell hx 7
    have x8 := blk_cell hx 8
    have x9 := blk_cell hx 9
    simp at x0 x1 x2 x3 x4 x5 x6 x7 x8 x9
    have hal : ∀ (o : Obj) (j : Nat) (v : Value), w1.cell? ⟨w.heap.size, j, none⟩ = some v → (w1.alloc o).cell? ⟨w.heap.size, j, none⟩ = some v := fun o j v h => Lib.cell?_alloc_some o h
    have y0 := fun o => hal o 0 _ x0
    have y1 := fun o => hal o 1 _ x1
    have y2 := fun o => hal o 2 _ x2
    have y3 := fun o => hal o 3 _ x3
    have y4 := fun o => hal o 4 _ x4
    have y5 := fun o => hal o 5 _ x5
    have y6 := fun o => hal o 6 _ x6
    have y7 := fun o => hal o 7 _ x7
    have y8 := fun o => hal o 8 _ x8
    have y9 := fun o => hal o 9 _ x9
    clear hb1 hx hal
    go_wp2
    exact bodyPost_ret (v := .bool false) (by simp [results, Try.results44, go_sem]) rfl ⟨by rw [HFF.out], HB1.out.alloc HB1.out.size _⟩
  cases h7 : ((m2 : Int) == (n2 : Int))
  case false =>
    have g7 : (m2 == n2) = false := by rw [← h7]; rw [Bool.eq_iff_iff]; simp; omega
    have HFF : Hid (F = false) := Lib.hid (by rw [← HF.out]; unfold samePl; simp only [h0, h1, h2, h3, h4, h5, h6, h7, Bool.false_and, Bool.and_false, Bool.true_and])
    go_enter Try.func44, Try.ntmps44
    go_wp2_with fail
    refine (HP.out _).mono ?_
    rintro e w1 ⟨rfl, hb1⟩
    have HB1 := Lib.hid (below_then HB0.out HB0.out.size hb1)
    have hx := blk_below (blk_new w (.cells #[.int .i64 fr, .int .i64 to_, .int .i64 at_, .slice A1 n1 c1, .int .i64 kind, .int .i64 code, .int .i64 id, .int .i64 rate, .int .i64 value, .slice A2 n2 c2] 48 (0, 0))) hb1
    have x0 := blk_cell hx 0
    have x1 := blk_cell hx 1
    have x2 := blk_cell hx 2
    have x3 := blk_cell hx 3
    have x4 := blk_cell hx 4
    have x5 := blk_cell hx 5
    have x6 := blk_cell hx 6
    have x7 := blk_cell hx 7
    have x8 := blk_cell hx 8
    have x9 := blk_cell hx 9
    simp at x0 x1 x2 x3 x4 x5 x6 x7 x8 x9
    have hal : ∀ (o : Obj) (j : Nat) (v : Value), w1.cell? ⟨w.heap.size, j, none⟩ = some v → (w1.alloc o).cell? ⟨w.heap.size, j, none⟩ = some v := fun o j v h => Lib.cell?_alloc_some o h
    have y0 := fun o => hal o 0 _ x0
    have y1 := fun o => hal o 1 _ x1
    have y2 := fun o => hal o 2 _ x2
    have y3 := fun o => hal o 3 _ x3
    have y4 := fun o => hal o 4 _ x4
    have y5 := fun o => hal o 5 _ x5
    have y6 := fun o => hal o 6 _ x6
    have y7 := fun o => hal o 7 _ x7
    have y8 := fun o => hal o 8 _ x8
    have y9 := fun o => hal o 9 _ x9
    clear hb1 hx hal
    go_wp2
    exact bodyPost_ret (v := .bool false) (by simp [results, Try.results44, go_sem]) rfl ⟨by rw [HFF.out], HB1.out.alloc HB1.out.size _⟩
  have g7 : (m2 == n2) = true := by rw [← h7]; rw [Bool.eq_iff_iff]; simp; omega
  have HFF : Hid (F = true) := Lib.hid (by rw [← HF.out]; unfold samePl; simp only [h0, h1, h2, h3, h4, h5, h6, h7, Bool.true_and])
  go_enter Try.func44, Try.ntmps44
  go_wp2_with fail
  refine (HP.out _).mono ?_
  rintro e w1 ⟨rfl, hb1⟩
  have HB1 := Lib.hid (below_then HB0.out HB0.out.size hb1)
  have hx := blk_below (blk_new w (.cells #[.int .i64 fr, .int .i64 to_, .int .i64 at_, .slice A1 n1 c1, .int .i64 kind, .int .i64 code, .int .i64 id, .int .i64 rate, .int .i64 value, .slice A2 n2 c2] 48 (0, 0))) hb1
  have x0 := blk_cell hx 0
  have x1 := blk_cell hx 1
  have x2 := blk_cell hx 2
  have x3 := blk_cell hx 3
  have x4 := blk_cell hx 4
  have x5 := blk_cell hx 5
  have x6 := blk_cell hx 6
  have x7 := blk_cell hx 7
  have x8 := blk_cell hx 8
  have x9 := blk_cell hx 9
  simp at x0 x1 x2 x3 x4 x5 x6 x7 x8 x9
  have hal : ∀ (o : Obj) (j : Nat) (v : Value), w1.cell? ⟨w.heap.size, j, none⟩ = some v → (w1.alloc o).cell? ⟨w.heap.size, j, none⟩ = some v := fun o j v h => Lib.cell?_alloc_some o h
  have y0 := fun o => hal o 0 _ x0
  have y1 := fun o => hal o 1 _ x1
  have y2 := fun o => hal o 2 _ x2
  have y3 := fun o => hal o 3 _ x3
  have y4 := fun o => hal o 4 _ x4
  have y5 := fun o => hal o 5 _ x5
  have y6 := fun o => hal o 6 _ x6
  have y7 := fun o => hal o 7 _ x7
  have y8 := fun o => hal o 8 _ x8
  have y9 := fun o => hal o 9 _ x9
  clear hb1 hx hal
  go_wp2
  exact bodyPost_ret (v := .bool true) (by simp [results, Try.results44, go_sem]) rfl ⟨by rw [HFF.out], HB1.out.alloc HB1.out.size _⟩
def isPlF (fr to_ at_ : Int) (n1 : Nat) (kind code id rate value : Int) (n2 : Nat) : Bool :=
  if kind = 1 then samePl fr to_ at_ n1 code id rate value n2 0 0 0 0 code 0 0 0 0
  else if kind = 2 then samePl fr to_ at_ n1 code id rate value n2 fr to_ 0 0 0 id rate 0 n2
  else if kind = 3 then samePl fr to_ at_ n1 code id rate value n2 0 0 at_ n1 0 0 0 0 0
  else if kind = 5 then samePl fr to_ at_ n1 code id rate value n2 0 0 0 0 0 0 0 value 0
  else samePl fr to_ at_ n1 code id rate value n2 0 0 0 0 0 0 0 0 0
theorem isPlain_is (fr to_ at_ kind code id rate value : Int) (A1 A2 : Option Addr) (n1 c1 n2 c2 : Nat) (w : World) :
    Calls Try.prog 44 #[.agg #[.int .i64 fr, .int .i64 to_, .int .i64 at_, .slice A1 n1 c1, .int .i64 kind, .int .i64 code, .int .i64 id, .int .i64 rate, .int .i64 value, .slice A2 n2 c2]] w fun e w' => e = .returned (.bool (isPlF fr to_ at_ n1 kind code id rate value n2)) ∧ Below w.heap.size w w' := by
  unfold isPlF
  by_cases h1 : kind = 1
  · subst h1
    rw [if_pos rfl]
    exact isPlain_of _ _ _ _ _ _ _ _ A1 A2 n1 c1 n2 c2 _ _ _ _ _ _ _ _ none none 0 0 0 0 w (fun W => plain_1 _ _ _ _ _ _ _ A1 A2 n1 c1 n2 c2 W)
  rw [if_neg h1]
  by_cases h2 : kind = 2
  · subst h2
    rw [if_pos rfl]
    exact isPlain_of _ _ _ _ _ _ _ _ A1 A2 n1 c1 n2 c2 _ _ _ _ _ _ _ _ none A2 0 0 n2 c2 w (fun W => plain_2 _ _ _ _ _ _ _ A1 A2 n1 c1 n2 c2 W)
  rw [if_neg h2]
  by_cases h3 : kind = 3
  · subst h3
    rw [if_pos rfl]
    exact isPlain_of _ _ _ _ _ _ _ _ A1 A2 n1 c1 n2 c2 _ _ _ _ _ _ _ _ A1 none n1 c1 0 0 w (fun W => plain_3 _ _ _ _ _ _ _ A1 A2 n1 c1 n2 c2 W)
  rw [if_neg h3]
  by_cases h5 : kind = 5
  · subst h5
    rw [if_pos rfl]
    exact isPlain_of _ _ _ _ _ _ _ _ A1 A2 n1 c1 n2 c2 _ _ _ _ _ _ _ _ none none 0 0 0 0 w (fun W => plain_5 _ _ _ _ _ _ _ A1 A2 n1 c1 n2 c2 W)
  rw [if_neg h5]
  exact isPlain_of _ _ _ _ _ _ _ _ A1 A2 n1 c1 n2 c2 _ _ _ kind _ _ _ _ none none 0 0 0 0 w (fun W => plain_0 _ _ _ kind _ _ _ _ A1 A2 n1 c1 n2 c2 W (by simpa using h1) (by simpa using h2) (by simpa using h3) (by simpa using h5))
end Go.Proofs.Yteikgpdjfhdneaa.Man
namespace Go.Proofs.Yteikgpdjfhdneaa.Man
open Go.RowKit Go.Proofs.Yteikgpdjfhdneaa.QT Go.Proofs.YteikgpdjfhdneaaW.PrintWords Go.Proofs.YteikgpdjfhdneaaW.PrintLast Go.Proofs.YteikgpdjfhdneaaW.PrintMore
structure Rp where
  fr : Int
  to_ : Int
  at_ : Int
  vs : List Int
  kind : Int
  code : Int
  id : Int
  rate : Int
  value : Int
  ps : List Pce
def kindF (r : Rp) : Bool :=
  if r.kind = 1 then decide (1 ≤ r.code) && decide (r.code ≤ 9)
  else if r.kind = 2 then decide (1 ≤ r.id) && (decide (r.id ≤ 1048576) && (decide (0 < r.rate) && (rateF r.rate && (mayF r.fr r.to_ && piecesF r.fr r.to_ r.ps))))
  else if r.kind = 3 then decide (0 ≤ r.at_) && (decide (r.at_ < 4096) && vertsF r.vs)
  else if r.kind = 5 then rateF r.value else decide (r.kind = 4)
def plF (r : Rp) : Bool := isPlF r.fr r.to_ r.at_ r.vs.length r.kind r.code r.id r.rate r.value r.ps.length
def tellF (r : Rp) : Bool := plF r && kindF r
set_option maxHeartbeats 16000000 in
set_option maxRecDepth 100000 in
theorem tell_1 (fr to_ at_ code id rate value : Int) (vs : List Int) (ps : List Pce) (A1 A2 : Option Addr) (c1 c2 : Nat) (w : World) (hv : Kd.C (Kd.int .i64) w A1 vs.length vs) (hc1 : vs.length ≤ c1) (hp : Kd.C k76 w A2 ps.length ps) (hc2 : ps.length ≤ c2) (hl : vs.length ≤ 281474976710656) :
    Calls Try.prog 27 #[.agg #[.int .i64 fr, .int .i64 to_, .int .i64 at_, .slice A1 vs.length c1, .int .i64 1, .int .i64 code, .int .i64 id, .int .i64 rate, .int .i64 value, .slice A2 ps.length c2]] w fun e w' => e = .returned (.bool (tellF ⟨fr, to_, at_, vs, 1, code, id, rate, value, ps⟩)) ∧ Below w.heap.size w w' := by
  have HV := Lib.hid hv
  have HP := Lib.hid hp
  have HB0 : Hid (Below w.heap.size w (w.alloc (.cells #[.int .i64 fr, .int .i64 to_, .int .i64 at_, .slice A1 vs.length c1, .int .i64 1, .int .i64 code, .int .i64 id, .int .i64 rate, .int .i64 value, .slice A2 ps.length c2] 48))) := Lib.hid ((Below.refl _ _).alloc (Nat.le_refl _) _)
  have HPL := Lib.hid (isPlain_is fr to_ at_ 1 code id rate value A1 A2 vs.length c1 ps.length c2 (w.alloc (.cells #[.int .i64 fr, .int .i64 to_, .int .i64 at_, .slice A1 vs.length c1, .int .i64 1, .int .i64 code, .int .i64 id, .int .i64 rate, .int .i64 value, .slice A2 ps.length c2] 48)))
  obtain ⟨F, hF⟩ : ∃ F, tellF ⟨fr, to_, at_, vs, 1, code, id, rate, value, ps⟩ = F := ⟨_, rfl⟩
  rw [hF]
  have HF := Lib.hid hF
  clear hF hv hp
  cases hq : plF ⟨fr, to_, at_, vs, 1, code, id, rate, value, ps⟩
  case false =>
    have HQ : Hid (isPlF fr to_ at_ vs.length 1 code id rate value ps.length = false) := Lib.hid hq
    have HFF : Hid (F = false) := Lib.hid (by rw [← HF.out]; unfold tellF; rw [hq, Bool.false_and])
    clear hq
    go_enter Try.func27, Try.ntmps27
    go_wp2_with fail
    refine HPL.out.mono ?_
    rintro e w1 ⟨rfl, hb1⟩
    rw [HQ.out]
    have HB1 := Lib.hid (below_then HB0.out HB0.out.size hb1)
    clear hb1
    go_wp2
    exact bodyPost_ret (v := .bool false) (by simp [results, Try.results27, go_sem]) rfl ⟨by rw [HFF.out], HB1.out⟩
  have HQ : Hid (isPlF fr to_ at_ vs.length 1 code id rate value ps.length = true) := Lib.hid hq
  have HK : Hid (F = kindF ⟨fr, to_, at_, vs, 1, code, id, rate, value, ps⟩) := Lib.hid (by rw [← HF.out]; unfold tellF; rw [hq, Bool.true_and])
  clear hq
  by_cases g1 : 1 ≤ code
  case neg =>
    have HFF : Hid (F = false) := Lib.hid (by rw [HK.out]; simp [kindF, g1])
    have e1 : decide (code ≥ 1) = false := decide_eq_false g1
    go_enter Try.func27, Try.ntmps27
    go_wp2_with fail
    refine HPL.out.mono ?_
    rintro e w1 ⟨rfl, hb1⟩
    rw [HQ.out]
    have HB1 := Lib.hid (below_then HB0.out HB0.out.size hb1)
    have hx := blk_below (blk_new w (.cells #[.int .i64 fr, .int .i64 to_, .int .i64 at_, .slice A1 vs.length c1, .int .i64 1, .int .i64 code, .int .i64 id, .int .i64 rate, .int .i64 value, .slice A2 ps.length c2] 48 (0, 0))) hb1
    have HX1 := Lib.hid hx
    have x0 := blk_cell hx 0
    have x1 := blk_cell hx 1
    have x2 := blk_cell hx 2
    have x3 := blk_cell hx 3
    have x4 := blk_cell hx 4
    have x5 := blk_cell hx 5
    have x6 := blk_cell hx 6
    have x7 := blk_cell hx 7
    have x8 := blk_cell hx 8
    have x9 := blk_cell hx 9
    simp at x0 x1 x2 x3 x4 x5 x6 x7 x8 x9
    have HV1 := Lib.hid (Kd.C_below (Kd.C_below HV.out HB0.out) hb1)
    have HP1 := Lib.hid (Kd.C_below (Kd.C_below HP.out HB0.out) hb1)
    clear hb1 hx
    go_wp2
    exact bodyPost_ret (v := .bool false) (by simp [results, Try.results27, go_sem]) rfl ⟨by rw [HFF.out], HB1.out⟩
  have e1 : decide (code ≥ 1) = true := decide_eq_true g1
  have HFF : Hid (F = decide (code ≤ 9)) := Lib.hid (by rw [HK.out]; simp [kindF, g1])
  obtain ⟨z, hz⟩ : ∃ z, decide (code ≤ 9) = z := ⟨_, rfl⟩
  rw [hz] at HFF
  go_enter Try.func27, Try.ntmps27
  go_wp2_with fail
  refine HPL.out.mono ?_
  rintro e w1 ⟨rfl, hb1⟩
  rw [HQ.out]
  have HB1 := Lib.hid (below_then HB0.out HB0.out.size hb1)
  have hx := blk_below (blk_new w (.cells #[.int .i64 fr, .int .i64 to_, .int .i64 at_, .slice A1 vs.length c1, .int .i64 1, .int .i64 code, .int .i64 id, .int .i64 rate, .int .i64 value, .slice A2 ps.length c2] 48 (0, 0))) hb1
  have HX1 := Lib.hid hx
  have x0 := blk_cell hx 0
  have x1 := blk_cell hx 1
  have x2 := blk_cell hx 2
  have x3 := blk_cell hx 3
  have x4 := blk_cell hx 4
  have x5 := blk_cell hx 5
  have x6 := blk_cell hx 6
  have x7 := blk_cell hx 7
  have x8 := blk_cell hx 8
  have x9 := blk_cell hx 9
  simp at x0 x1 x2 x3 x4 x5 x6 x7 x8 x9
  have HV1 := Lib.hid (Kd.C_below (Kd.C_below HV.out HB0.out) hb1)
  have HP1 := Lib.hid (Kd.C_below (Kd.C_below HP.out HB0.out) hb1)
  clear hb1 hx
  go_wp2
  exact bodyPost_ret (v := .bool z) (by simp [results, Try.results27, go_sem, hz]) rfl ⟨by rw [HFF.out], HB1.out⟩
set_option maxHeartbeats 16000000 in
set_option maxRecDepth 100000 in
theorem tell_2 (fr to_ at_ code id rate value : Int) (vs : List Int) (ps : List Pce) (A1 A2 : Option Addr) (c1 c2 : Nat) (w : World) (hv : Kd.C (Kd.int .i64) w A1 vs.length vs) (hc1 : vs.length ≤ c1) (hp : Kd.C k76 w A2 ps.length ps) (hc2 : ps.length ≤ c2) (hl : vs.length ≤ 281474976710656) :
    Calls Try.prog 27 #[.agg #[.int .i64 fr, .int .i64 to_, .int .i64 at_, .slice A1 vs.length c1, .int .i64 2, .int .i64 code, .int .i64 id, .int .i64 rate, .int .i64 value, .slice A2 ps.length c2]] w fun e w' => e = .returned (.bool (tellF ⟨fr, to_, at_, vs, 2, code, id, rate, value, ps⟩)) ∧ Below w.heap.size w w' := by
  have HV := Lib.hid hv
  have HP := Lib.hid hp
  have HB0 : Hid (Below w.heap.size w (w.alloc (.cells #[.int .i64 fr, .int .i64 to_, .int .i64 at_, .slice A1 vs.length c1, .int .i64 2, .int .i64 code, .int .i64 id, .int .i64 rate, .int .i64 value, .slice A2 ps.length c2] 48))) := Lib.hid ((Below.refl _ _).alloc (Nat.le_refl _) _)
  have HPL := Lib.hid (isPlain_is fr to_ at_ 2 code id rate value A1 A2 vs.length c1 ps.length c2 (w.alloc (.cells #[.int .i64 fr, .int .i64 to_, .int .i64 at_, .slice A1 vs.length c1, .int .i64 2, .int .i64 code, .int .i64 id, .int .i64 rate, .int .i64 value, .slice A2 ps.length c2] 48)))
  obtain ⟨F, hF⟩ : ∃ F, tellF ⟨fr, to_, at_, vs, 2, code, id, rate, value, ps⟩ = F := ⟨_, rfl⟩
  rw [hF]
  have HF := Lib.hid hF
  clear hF hv hp
  cases hq : plF ⟨fr, to_, at_, vs, 2, code, id, rate, value, ps⟩
  case false =>
    have HQ : Hid (isPlF fr to_ at_ vs.length 2 code id rate value ps.length = false) := Lib.hid hq
    have HFF : Hid (F = false) := Lib.hid (by rw [← HF.out]; unfold tellF; rw [hq, Bool.false_and])
    clear hq
    go_enter Try.func27, Try.ntmps27
    go_wp2_with fail
    refine HPL.out.mono ?_
    rintro e w1 ⟨rfl, hb1⟩
    rw [HQ.out]
    have HB1 := Lib.hid (below_then HB0.out HB0.out.size hb1)
    clear hb1
    go_wp2
    exact bodyPost_ret (v := .bool false) (by simp [results, Try.results27, go_sem]) rfl ⟨by rw [HFF.out], HB1.out⟩
  have HQ : Hid (isPlF fr to_ at_ vs.length 2 code id rate value ps.length = true) := Lib.hid hq
  have HK : Hid (F = kindF ⟨fr, to_, at_, vs, 2, code, id, rate, value, ps⟩) := Lib.hid (by rw [← HF.out]; unfold tellF; rw [hq, Bool.true_and])
  clear hq
  by_cases g0 : 1 ≤ id
  case neg =>
    have HFF : Hid (F = false) := Lib.hid (by rw [HK.out]; simp [kindF, g0])
    have e0 : decide (id ≥ 1) = false := decide_eq_false (by omega)
    go_enter Try.func27, Try.ntmps27
    go_wp2_with fail
    refine HPL.out.mono ?_
    rintro e w1 ⟨rfl, hb1⟩
    rw [HQ.out]
    have HB1 := Lib.hid (below_then HB0.out HB0.out.size hb1)
    have hx := blk_below (blk_new w (.cells #[.int .i64 fr, .int .i64 to_, .int .i64 at_, .slice A1 vs.length c1, .int .i64 2, .int .i64 code, .int .i64 id, .int .i64 rate, .int .i64 value, .slice A2 ps.length c2] 48 (0, 0))) hb1
    have HX1 := Lib.hid hx
    have x0 := blk_cell hx 0
    have x1 := blk_cell hx 1
    have x2 := blk_cell hx 2
    have x3 := blk_cell hx 3
    have x4 := blk_cell hx 4
    have x5 := blk_cell hx 5
    have x6 := blk_cell hx 6
    have x7 := blk_cell hx 7
    have x8 := blk_cell hx 8
    have x9 := blk_cell hx 9
    simp at x0 x1 x2 x3 x4 x5 x6 x7 x8 x9
    have HV1 := Lib.hid (Kd.C_below (Kd.C_below HV.out HB0.out) hb1)
    have HP1 := Lib.hid (Kd.C_below (Kd.C_below HP.out HB0.out) hb1)
    clear hb1 hx
    go_wp2
    exact bodyPost_ret (v := .bool false) (by simp [results, Try.results27, go_sem]) rfl ⟨by rw [HFF.out], HB1.out⟩
  have e0 : decide (id ≥ 1) = true := decide_eq_true (by omega)
  by_cases g1 : id ≤ 1048576
  case neg =>
    have HFF : Hid (F = false) := Lib.hid (by rw [HK.out]; simp [kindF, g0, g1])
    have e1 : decide (id ≤ 1048576) = false := decide_eq_false (by omega)
    go_enter Try.func27, Try.ntmps27
    go_wp2_with fail
    refine HPL.out.mono ?_
    rintro e w1 ⟨rfl, hb1⟩
    rw [HQ.out]
    have HB1 := Lib.hid (below_then HB0.out HB0.out.size hb1)
    have hx := blk_below (blk_new w (.cells #[.int .i64 fr, .int .i64 to_, .int .i64 at_, .slice A1 vs.length c1, .int .i64 2, .int .i64 code, .int .i64 id, .int .i64 rate, .int .i64 value, .slice A2 ps.length c2] 48 (0, 0))) hb1
    have HX1 := Lib.hid hx
    have x0 := blk_cell hx 0
    have x1 := blk_cell hx 1
    have x2 := blk_cell hx 2
    have x3 := blk_cell hx 3
    have x4 := blk_cell hx 4
    have x5 := blk_cell hx 5
    have x6 := blk_cell hx 6
    have x7 := blk_cell hx 7
    have x8 := blk_cell hx 8
    have x9 := blk_cell hx 9
    simp at x0 x1 x2 x3 x4 x5 x6 x7 x8 x9
    have HV1 := Lib.hid (Kd.C_below (Kd.C_below HV.out HB0.out) hb1)
    have HP1 := Lib.hid (Kd.C_below (Kd.C_below HP.out HB0.out) hb1)
    clear hb1 hx
    go_wp2
    exact bodyPost_ret (v := .bool false) (by simp [results, Try.results27, go_sem]) rfl ⟨by rw [HFF.out], HB1.out⟩
  have e1 : decide (id ≤ 1048576) = true := decide_eq_true (by omega)
  by_cases g2 : 0 < rate
  case neg =>
    have HFF : Hid (F = false) := Lib.hid (by rw [HK.out]; simp [kindF, g0, g1, g2])
    have e2 : decide (rate > 0) = false := decide_eq_false (by omega)
    go_enter Try.func27, Try.ntmps27
    go_wp2_with fail
    refine HPL.out.mono ?_
    rintro e w1 ⟨rfl, hb1⟩
    rw [HQ.out]
    have HB1 := Lib.hid (below_then HB0.out HB0.out.size hb1)
    have hx := blk_below (blk_new w (.cells #[.int .i64 fr, .int .i64 to_, .int .i64 at_, .slice A1 vs.length c1, .int .i64 2, .int .i64 code, .int .i64 id, .int .i64 rate, .int .i64 value, .slice A2 ps.length c2] 48 (0, 0))) hb1
    have HX1 := Lib.hid hx
    have x0 := blk_cell hx 0
    have x1 := blk_cell hx 1
    have x2 := blk_cell hx 2
    have x3 := blk_cell hx 3
    have x4 := blk_cell hx 4
    have x5 := blk_cell hx 5
    have x6 := blk_cell hx 6
    have x7 := blk_cell hx 7
    have x8 := blk_cell hx 8
    have x9 := blk_cell hx 9
    simp at x0 x1 x2 x3 x4 x5 x6 x7 x8 x9
    have HV1 := Lib.hid (Kd.C_below (Kd.C_below HV.out HB0.out) hb1)
    have HP1 := Lib.hid (Kd.C_below (Kd.C_below HP.out HB0.out) hb1)
    clear hb1 hx
    go_wp2
    exact bodyPost_ret (v := .bool false) (by simp [results, Try.results27, go_sem]) rfl ⟨by rw [HFF.out], HB1.out⟩
  have e2 : decide (rate > 0) = true := decide_eq_true (by omega)
  cases hr : rateF rate
  case false =>
    have HRT := Lib.hid hr
    have HFF : Hid (F = false) := Lib.hid (by rw [HK.out]; simp [kindF, g0, g1, g2, hr])
    clear hr
    go_enter Try.func27, Try.ntmps27
    go_wp2_with fail
    refine HPL.out.mono ?_
    rintro e w1 ⟨rfl, hb1⟩
    rw [HQ.out]
    have HB1 := Lib.hid (below_then HB0.out HB0.out.size hb1)
    have hx := blk_below (blk_new w (.cells #[.int .i64 fr, .int .i64 to_, .int .i64 at_, .slice A1 vs.length c1, .int .i64 2, .int .i64 code, .int .i64 id, .int .i64 rate, .int .i64 value, .slice A2 ps.length c2] 48 (0, 0))) hb1
    have HX1 := Lib.hid hx
    have x0 := blk_cell hx 0
    have x1 := blk_cell hx 1
    have x2 := blk_cell hx 2
    have x3 := blk_cell hx 3
    have x4 := blk_cell hx 4
    have x5 := blk_cell hx 5
    have x6 := blk_cell hx 6
    have x7 := blk_cell hx 7
    have x8 := blk_cell hx 8
    have x9 := blk_cell hx 9
    simp at x0 x1 x2 x3 x4 x5 x6 x7 x8 x9
    have HV1 := Lib.hid (Kd.C_below (Kd.C_below HV.out HB0.out) hb1)
    have HP1 := Lib.hid (Kd.C_below (Kd.C_below HP.out HB0.out) hb1)
    clear hb1 hx
    go_wp2_with fail
    refine (rate_is rate _).mono ?_
    rintro e _ ⟨rfl, rfl⟩
    rw [HRT.out]
    have HBZ := HB1
    go_wp2
    exact bodyPost_ret (v := .bool false) (by simp [results, Try.results27, go_sem]) rfl ⟨by rw [HFF.out], HBZ.out⟩
  have HRT := Lib.hid hr
  cases hm : mayF fr to_
  case false =>
    have HMY := Lib.hid hm
    have HFF : Hid (F = false) := Lib.hid (by rw [HK.out]; simp [kindF, g0, g1, g2, hr, hm])
    clear hr hm
    go_enter Try.func27, Try.ntmps27
    go_wp2_with fail
    refine HPL.out.mono ?_
    rintro e w1 ⟨rfl, hb1⟩
    rw [HQ.out]
    have HB1 := Lib.hid (below_then HB0.out HB0.out.size hb1)
    have hx := blk_below (blk_new w (.cells #[.int .i64 fr, .int .i64 to_, .int .i64 at_, .slice A1 vs.length c1, .int .i64 2, .int .i64 code, .int .i64 id, .int .i64 rate, .int .i64 value, .slice A2 ps.length c2] 48 (0, 0))) hb1
    have HX1 := Lib.hid hx
    have x0 := blk_cell hx 0
    have x1 := blk_cell hx 1
    have x2 := blk_cell hx 2
    have x3 := blk_cell hx 3
    have x4 := blk_cell hx 4
    have x5 := blk_cell hx 5
    have x6 := blk_cell hx 6
    have x7 := blk_cell hx 7
    have x8 := blk_cell hx 8
    have x9 := blk_cell hx 9
    simp at x0 x1 x2 x3 x4 x5 x6 x7 x8 x9
    have HV1 := Lib.hid (Kd.C_below (Kd.C_below HV.out HB0.out) hb1)
    have HP1 := Lib.hid (Kd.C_below (Kd.C_below HP.out HB0.out) hb1)
    clear hb1 hx
    go_wp2_with fail
    refine (rate_is rate _).mono ?_
    rintro e _ ⟨rfl, rfl⟩
    rw [HRT.out]
    go_wp2_with fail
    refine (may_is fr to_ _).mono ?_
    rintro e w2 ⟨rfl, hb2⟩
    rw [HMY.out]
    have HB2 := Lib.hid (below_then HB1.out HB1.out.size hb2)
    have HBZ := HB2
    have HX2 := Lib.hid (blk_below HX1.out hb2)
    have HP2 := Lib.hid (Kd.C_below HP1.out hb2)
    clear hb2
    go_wp2
    exact bodyPost_ret (v := .bool false) (by simp [results, Try.results27, go_sem]) rfl ⟨by rw [HFF.out], HBZ.out⟩
  have HMY := Lib.hid hm
  have HFF : Hid (F = piecesF fr to_ ps) := Lib.hid (by rw [HK.out]; simp [kindF, g0, g1, g2, hr, hm])
  clear hr hm
  go_enter Try.func27, Try.ntmps27
  go_wp2_with fail
  refine HPL.out.mono ?_
  rintro e w1 ⟨rfl, hb1⟩
  rw [HQ.out]
  have HB1 := Lib.hid (below_then HB0.out HB0.out.size hb1)
  have hx := blk_below (blk_new w (.cells #[.int .i64 fr, .int .i64 to_, .int .i64 at_, .slice A1 vs.length c1, .int .i64 2, .int .i64 code, .int .i64 id, .int .i64 rate, .int .i64 value, .slice A2 ps.length c2] 48 (0, 0))) hb1
  have HX1 := Lib.hid hx
  have x0 := blk_cell hx 0
  have x1 := blk_cell hx 1
  have x2 := blk_cell hx 2
  have x3 := blk_cell hx 3
  have x4 := blk_cell hx 4
  have x5 := blk_cell hx 5
  have x6 := blk_cell hx 6
  have x7 := blk_cell hx 7
  have x8 := blk_cell hx 8
  have x9 := blk_cell hx 9
  simp at x0 x1 x2 x3 x4 x5 x6 x7 x8 x9
  have HV1 := Lib.hid (Kd.C_below (Kd.C_below HV.out HB0.out) hb1)
  have HP1 := Lib.hid (Kd.C_below (Kd.C_below HP.out HB0.out) hb1)
  clear hb1 hx
  go_wp2_with fail
  refine (rate_is rate _).mono ?_
  rintro e _ ⟨rfl, rfl⟩
  rw [HRT.out]
  go_wp2_with fail
  refine (may_is fr to_ _).mono ?_
  rintro e w2 ⟨rfl, hb2⟩
  rw [HMY.out]
  have HB2 := Lib.hid (below_then HB1.out HB1.out.size hb2)
  have HBZ := HB2
  have HX2 := Lib.hid (blk_below HX1.out hb2)
  have HP2 := Lib.hid (Kd.C_below HP1.out hb2)
  clear hb2
  clear x0 x1 x2 x3 x4 x5 x6 x7 x8 x9
  have x0 := blk_cell HX2.out 0
  have x1 := blk_cell HX2.out 1
  have x9 := blk_cell HX2.out 9
  simp at x0 x1 x9
  have HPM := Lib.hid (piecesMay_is A2 c2 fr to_ ps w2 HP2.out hc2)
  generalize piecesF fr to_ ps = z at HFF HPM
  go_wp2_with fail
  refine HPM.out.mono ?_
  rintro e w3 ⟨rfl, hb3⟩
  have HB3 := Lib.hid (below_then HB2.out HB2.out.size hb3)
  clear hb3
  go_wp2
  exact bodyPost_ret (v := .bool z) (by simp [results, Try.results27, go_sem]) rfl ⟨by rw [HFF.out], HB3.out⟩
set_option maxHeartbeats 16000000 in
set_option maxRecDepth 100000 in
theorem tell_3 (fr to_ at_ code id rate value : Int) (vs : List Int) (ps : List Pce) (A1 A2 : Option Addr) (c1 c2 : Nat) (w : World) (hv : Kd.C (Kd.int .i64) w A1 vs.length vs) (hc1 : vs.length ≤ c1) (hp : Kd.C k76 w A2 ps.length ps) (hc2 : ps.length ≤ c2) (hl : vs.length ≤ 281474976710656) :
    Calls Try.prog 27 #[.agg #[.int .i64 fr, .int .i64 to_, .int .i64 at_, .slice A1 vs.length c1, .int .i64 3, .int .i64 code, .int .i64 id, .int .i64 rate, .int .i64 value, .slice A2 ps.length c2]] w fun e w' => e = .returned (.bool (tellF ⟨fr, to_, at_, vs, 3, code, id, rate, value, ps⟩)) ∧ Below w.heap.size w w' := by
  have HV := Lib.hid hv
  have HP := Lib.hid hp
  have HB0 : Hid (Below w.heap.size w (w.alloc (.cells #[.int .i64 fr, .int .i64 to_, .int .i64 at_, .slice A1 vs.length c1, .int .i64 3, .int .i64 code, .int .i64 id, .int .i64 rate, .int .i64 value, .slice A2 ps.length c2] 48))) := Lib.hid ((Below.refl _ _).alloc (Nat.le_refl _) _)
  have HPL := Lib.hid (isPlain_is fr to_ at_ 3 code id rate value A1 A2 vs.length c1 ps.length c2 (w.alloc (.cells #[.int .i64 fr, .int .i64 to_, .int .i64 at_, .slice A1 vs.length c1, .int .i64 3, .int .i64 code, .int .i64 id, .int .i64 rate, .int .i64 value, .slice A2 ps.length c2] 48)))
  obtain ⟨F, hF⟩ : ∃ F, tellF ⟨fr, to_, at_, vs, 3, code, id, rate, value, ps⟩ = F := ⟨_, rfl⟩
  rw [hF]
  have HF := Lib.hid hF
  clear hF hv hp
  cases hq : plF ⟨fr, to_, at_, vs, 3, code, id, rate, value, ps⟩
  case false =>
    have HQ : Hid (isPlF fr to_ at_ vs.length 3 code id rate value ps.length = false) := Lib.hid hq
    have HFF : Hid (F = false) := Lib.hid (by rw [← HF.out]; unfold tellF; rw [hq, Bool.false_and])
    clear hq
    go_enter Try.func27, Try.ntmps27
    go_wp2_with fail
    refine HPL.out.mono ?_
    rintro e w1 ⟨rfl, hb1⟩
    rw [HQ.out]
    have HB1 := Lib.hid (below_then HB0.out HB0.out.size hb1)
    clear hb1
    go_wp2
    exact bodyPost_ret (v := .bool false) (by simp [results, Try.results27, go_sem]) rfl ⟨by rw [HFF.out], HB1.out⟩
  have HQ : Hid (isPlF fr to_ at_ vs.length 3 code id rate value ps.length = true) := Lib.hid hq
  have HK : Hid (F = kindF ⟨fr, to_, at_, vs, 3, code, id, rate, value, ps⟩) := Lib.hid (by rw [← HF.out]; unfold tellF; rw [hq, Bool.true_and])
  clear hq
  by_cases g0 : 0 ≤ at_
  case neg =>
    have HFF : Hid (F = false) := Lib.hid (by rw [HK.out]; simp [kindF, g0])
    have e0 : decide (at_ ≥ 0) = false := decide_eq_false (by omega)
    go_enter Try.func27, Try.ntmps27
    go_wp2_with fail
    refine HPL.out.mono ?_
    rintro e w1 ⟨rfl, hb1⟩
    rw [HQ.out]
    have HB1 := Lib.hid (below_then HB0.out HB0.out.size hb1)
    have hx := blk_below (blk_new w (.cells #[.int .i64 fr, .int .i64 to_, .int .i64 at_, .slice A1 vs.length c1, .int .i64 3, .int .i64 code, .int .i64 id, .int .i64 rate, .int .i64 value, .slice A2 ps.length c2] 48 (0, 0))) hb1
    have HX1 := Lib.hid hx
    have x0 := blk_cell hx 0
    have x1 := blk_cell hx 1
    have x2 := blk_cell hx 2
    have x3 := blk_cell hx 3
    have x4 := blk_cell hx 4
    have x5 := blk_cell hx 5
    have x6 := blk_cell hx 6
    have x7 := blk_cell hx 7
    have x8 := blk_cell hx 8
    have x9 := blk_cell hx 9
    simp at x0 x1 x2 x3 x4 x5 x6 x7 x8 x9
    have HV1 := Lib.hid (Kd.C_below (Kd.C_below HV.out HB0.out) hb1)
    have HP1 := Lib.hid (Kd.C_below (Kd.C_below HP.out HB0.out) hb1)
    clear hb1 hx
    go_wp2
    exact bodyPost_ret (v := .bool false) (by simp [results, Try.results27, go_sem]) rfl ⟨by rw [HFF.out], HB1.out⟩
  have e0 : decide (at_ ≥ 0) = true := decide_eq_true (by omega)
  by_cases g1 : at_ < 4096
  case neg =>
    have HFF : Hid (F = false) := Lib.hid (by rw [HK.out]; simp [kindF, g0, g1])
    have e1 : decide (at_ < 4096) = false := decide_eq_false g1
    go_enter Try.func27, Try.ntmps27
    go_wp2_with fail
    refine HPL.out.mono ?_
    rintro e w1 ⟨rfl, hb1⟩
    rw [HQ.out]
    have HB1 := Lib.hid (below_then HB0.out HB0.out.size hb1)
    have hx := blk_below (blk_new w (.cells #[.int .i64 fr, .int .i64 to_, .int .i64 at_, .slice A1 vs.length c1, .int .i64 3, .int .i64 code, .int .i64 id, .int .i64 rate, .int .i64 value, .slice A2 ps.length c2] 48 (0, 0))) hb1
    have HX1 := Lib.hid hx
    have x0 := blk_cell hx 0
    have x1 := blk_cell hx 1
    have x2 := blk_cell hx 2
    have x3 := blk_cell hx 3
    have x4 := blk_cell hx 4
    have x5 := blk_cell hx 5
    have x6 := blk_cell hx 6
    have x7 := blk_cell hx 7
    have x8 := blk_cell hx 8
    have x9 := blk_cell hx 9
    simp at x0 x1 x2 x3 x4 x5 x6 x7 x8 x9
    have HV1 := Lib.hid (Kd.C_below (Kd.C_below HV.out HB0.out) hb1)
    have HP1 := Lib.hid (Kd.C_below (Kd.C_below HP.out HB0.out) hb1)
    clear hb1 hx
    go_wp2
    exact bodyPost_ret (v := .bool false) (by simp [results, Try.results27, go_sem]) rfl ⟨by rw [HFF.out], HB1.out⟩
  have e1 : decide (at_ < 4096) = true := decide_eq_true g1
  have HFF : Hid (F = vertsF vs) := Lib.hid (by rw [HK.out]; simp [kindF, g0, g1])
  go_enter Try.func27, Try.ntmps27
  go_wp2_with fail
  refine HPL.out.mono ?_
  rintro e w1 ⟨rfl, hb1⟩
  rw [HQ.out]
  have HB1 := Lib.hid (below_then HB0.out HB0.out.size hb1)
  have hx := blk_below (blk_new w (.cells #[.int .i64 fr, .int .i64 to_, .int .i64 at_, .slice A1 vs.length c1, .int .i64 3, .int .i64 code, .int .i64 id, .int .i64 rate, .int .i64 value, .slice A2 ps.length c2] 48 (0, 0))) hb1
  have HX1 := Lib.hid hx
  have x0 := blk_cell hx 0
  have x1 := blk_cell hx 1
  have x2 := blk_cell hx 2
  have x3 := blk_cell hx 3
  have x4 := blk_cell hx 4
  have x5 := blk_cell hx 5
  have x6 := blk_cell hx 6
  have x7 := blk_cell hx 7
  have x8 := blk_cell hx 8
  have x9 := blk_cell hx 9
  simp at x0 x1 x2 x3 x4 x5 x6 x7 x8 x9
  have HV1 := Lib.hid (Kd.C_below (Kd.C_below HV.out HB0.out) hb1)
  have HP1 := Lib.hid (Kd.C_below (Kd.C_below HP.out HB0.out) hb1)
  clear hb1 hx
  have HPM := Lib.hid (vertsMay_is A1 c1 vs w1 HV1.out hc1 hl)
  generalize vertsF vs = z at HFF HPM
  go_wp2_with fail
  refine HPM.out.mono ?_
  rintro e _ ⟨rfl, rfl⟩
  go_wp2
  exact bodyPost_ret (v := .bool z) (by simp [results, Try.results27, go_sem]) rfl ⟨by rw [HFF.out], HB1.out⟩
set_option maxHeartbeats 16000000 in
set_option maxRecDepth 100000 in
theorem tell_5 (fr to_ at_ code id rate value : Int) (vs : List Int) (ps : List Pce) (A1 A2 : Option Addr) (c1 c2 : Nat) (w : World) (hv : Kd.C (Kd.int .i64) w A1 vs.length vs) (hc1 : vs.length ≤ c1) (hp : Kd.C k76 w A2 ps.length ps) (hc2 : ps.length ≤ c2) (hl : vs.length ≤ 281474976710656) :
    Calls Try.prog 27 #[.agg #[.int .i64 fr, .int .i64 to_, .int .i64 at_, .slice A1 vs.length c1, .int .i64 5, .int .i64 code, .int .i64 id, .int .i64 rate, .int .i64 value, .slice A2 ps.length c2]] w fun e w' => e = .returned (.bool (tellF ⟨fr, to_, at_, vs, 5, code, id, rate, value, ps⟩)) ∧ Below w.heap.size w w' := by
  have HV := Lib.hid hv
  have HP := Lib.hid hp
  have HB0 : Hid (Below w.heap.size w (w.alloc (.cells #[.int .i64 fr, .int .i64 to_, .int .i64 at_, .slice A1 vs.length c1, .int .i64 5, .int .i64 code, .int .i64 id, .int .i64 rate, .int .i64 value, .slice A2 ps.length c2] 48))) := Lib.hid ((Below.refl _ _).alloc (Nat.le_refl _) _)
  have HPL := Lib.hid (isPlain_is fr to_ at_ 5 code id rate value A1 A2 vs.length c1 ps.length c2 (w.alloc (.cells #[.int .i64 fr, .int .i64 to_, .int .i64 at_, .slice A1 vs.length c1, .int .i64 5, .int .i64 code, .int .i64 id, .int .i64 rate, .int .i64 value, .slice A2 ps.length c2] 48)))
  obtain ⟨F, hF⟩ : ∃ F, tellF ⟨fr, to_, at_, vs, 5, code, id, rate, value, ps⟩ = F := ⟨_, rfl⟩
  rw [hF]
  have HF := Lib.hid hF
  clear hF hv hp
  cases hq : plF ⟨fr, to_, at_, vs, 5, code, id, rate, value, ps⟩
  case false =>
    have HQ : Hid (isPlF fr to_ at_ vs.length 5 code id rate value ps.length = false) := Lib.hid hq
    have HFF : Hid (F = false) := Lib.hid (by rw [← HF.out]; unfold tellF; rw [hq, Bool.false_and])
    clear hq
    go_enter Try.func27, Try.ntmps27
    go_wp2_with fail
    refine HPL.out.mono ?_
    rintro e w1 ⟨rfl, hb1⟩
    rw [HQ.out]
    have HB1 := Lib.hid (below_then HB0.out HB0.out.size hb1)
    clear hb1
    go_wp2
    exact bodyPost_ret (v := .bool false) (by simp [results, Try.results27, go_sem]) rfl ⟨by rw [HFF.out], HB1.out⟩
  have HQ : Hid (isPlF fr to_ at_ vs.length 5 code id rate value ps.length = true) := Lib.hid hq
  have HK : Hid (F = kindF ⟨fr, to_, at_, vs, 5, code, id, rate, value, ps⟩) := Lib.hid (by rw [← HF.out]; unfold tellF; rw [hq, Bool.true_and])
  clear hq
  have HFF : Hid (F = rateF value) := Lib.hid (by rw [HK.out]; simp [kindF])
  go_enter Try.func27, Try.ntmps27
  go_wp2_with fail
  refine HPL.out.mono ?_
  rintro e w1 ⟨rfl, hb1⟩
  rw [HQ.out]
  have HB1 := Lib.hid (below_then HB0.out HB0.out.size hb1)
  have hx := blk_below (blk_new w (.cells #[.int .i64 fr, .int .i64 to_, .int .i64 at_, .slice A1 vs.length c1, .int .i64 5, .int .i64 code, .int .i64 id, .int .i64 rate, .int .i64 value, .slice A2 ps.length c2] 48 (0, 0))) hb1
  have HX1 := Lib.hid hx
  have x0 := blk_cell hx 0
  have x1 := blk_cell hx 1
  have x2 := blk_cell hx 2
  have x3 := blk_cell hx 3
  have x4 := blk_cell hx 4
  have x5 := blk_cell hx 5
  have x6 := blk_cell hx 6
  have x7 := blk_cell hx 7
  have x8 := blk_cell hx 8
  have x9 := blk_cell hx 9
  simp at x0 x1 x2 x3 x4 x5 x6 x7 x8 x9
  have HV1 := Lib.hid (Kd.C_below (Kd.C_below HV.out HB0.out) hb1)
  have HP1 := Lib.hid (Kd.C_below (Kd.C_below HP.out HB0.out) hb1)
  clear hb1 hx
  have HPM := Lib.hid (rate_is value w1)
  generalize rateF value = z at HFF HPM
  go_wp2_with fail
  refine HPM.out.mono ?_
  rintro e _ ⟨rfl, rfl⟩
  go_wp2
  exact bodyPost_ret (v := .bool z) (by simp [results, Try.results27, go_sem]) rfl ⟨by rw [HFF.out], HB1.out⟩
set_option maxHeartbeats 16000000 in
set_option maxRecDepth 100000 in
theorem tell_0 (fr to_ at_ kind code id rate value : Int) (vs : List Int) (ps : List Pce) (A1 A2 : Option Addr) (c1 c2 : Nat) (w : World) (hv : Kd.C (Kd.int .i64) w A1 vs.length vs) (hc1 : vs.length ≤ c1) (hp : Kd.C k76 w A2 ps.length ps) (hc2 : ps.length ≤ c2) (hl : vs.length ≤ 281474976710656) (h1 : (kind == 1) = false) (h2 : (kind == 2) = false) (h3 : (kind == 3) = false) (h5 : (kind == 5) = false) :
    Calls Try.prog 27 #[.agg #[.int .i64 fr, .int .i64 to_, .int .i64 at_, .slice A1 vs.length c1, .int .i64 kind, .int .i64 code, .int .i64 id, .int .i64 rate, .int .i64 value, .slice A2 ps.length c2]] w fun e w' => e = .returned (.bool (tellF ⟨fr, to_, at_, vs, kind, code, id, rate, value, ps⟩)) ∧ Below w.heap.size w w' := by
  have HV := Lib.hid hv
  have HP := Lib.hid hp
  have HB0 : Hid (Below w.heap.size w (w.alloc (.cells #[.int .i64 fr, .int .i64 to_, .int .i64 at_, .slice A1 vs.length c1, .int .i64 kind, .int .i64 code, .int .i64 id, .int .i64 rate, .int .i64 value, .slice A2 ps.length c2] 48))) := Lib.hid ((Below.refl _ _).alloc (Nat.le_refl _) _)
  have HPL := Lib.hid (isPlain_is fr to_ at_ kind code id rate value A1 A2 vs.length c1 ps.length c2 (w.alloc (.cells #[.int .i64 fr, .int .i64 to_, .int .i64 at_, .slice A1 vs.length c1, .int .i64 kind, .int .i64 code, .int .i64 id, .int .i64 rate, .int .i64 value, .slice A2 ps.length c2] 48)))
  obtain ⟨F, hF⟩ : ∃ F, tellF ⟨fr, to_, at_, vs, kind, code, id, rate, value, ps⟩ = F := ⟨_, rfl⟩
  rw [hF]
  have HF := Lib.hid hF
  clear hF hv hp
  cases hq : plF ⟨fr, to_, at_, vs, kind, code, id, rate, value, ps⟩
  case false =>
    have HQ : Hid (isPlF fr to_ at_ vs.length kind code id rate value ps.length = false) := Lib.hid hq
    have HFF : Hid (F = false) := Lib.hid (by rw [← HF.out]; unfold tellF; rw [hq, Bool.false_and])
    clear hq
    go_enter Try.func27, Try.ntmps27
    go_wp2_with fail
    refine HPL.out.mono ?_
    rintro e w1 ⟨rfl, hb1⟩
    rw [HQ.out]
    have HB1 := Lib.hid (below_then HB0.out HB0.out.size hb1)
    clear hb1
    go_wp2
    exact bodyPost_ret (v := .bool false) (by simp [results, Try.results27, go_sem]) rfl ⟨by rw [HFF.out], HB1.out⟩
  have HQ : Hid (isPlF fr to_ at_ vs.length kind code id rate value ps.length = true) := Lib.hid hq
  have HK : Hid (F = kindF ⟨fr, to_, at_, vs, kind, code, id, rate, value, ps⟩) := Lib.hid (by rw [← HF.out]; unfold tellF; rw [hq, Bool.true_and])
  clear hq
  have HFF : Hid (F = (kind == 4)) := Lib.hid (by rw [HK.out]; unfold kindF; simp only [beq_eq_false_iff_ne, ne_eq] at h1 h2 h3 h5; rw [if_neg h1, if_neg h2, if_neg h3, if_neg h5]; rfl)
  obtain ⟨z, hz⟩ : ∃ z, (kind == 4) = z := ⟨_, rfl⟩
  rw [hz] at HFF
  go_enter Try.func27, Try.ntmps27
  go_wp2_with fail
  refine HPL.out.mono ?_
  rintro e w1 ⟨rfl, hb1⟩
  rw [HQ.out]
  have HB1 := Lib.hid (below_then HB0.out HB0.out.size hb1)
  have hx := blk_below (blk_new w (.cells #[.int .i64 fr, .int .i64 to_, .int .i64 at_, .slice A1 vs.length c1, .int .i64 kind, .int .i64 code, .int .i64 id, .int .i64 rate, .int .i64 value, .slice A2 ps.length c2] 48 (0, 0))) hb1
  have HX1 := Lib.hid hx
  have x0 := blk_cell hx 0
  have x1 := blk_cell hx 1
  have x2 := blk_cell hx 2
  have x3 := blk_cell hx 3
  have x4 := blk_cell hx 4
  have x5 := blk_cell hx 5
  have x6 := blk_cell hx 6
  have x7 := blk_cell hx 7
  have x8 := blk_cell hx 8
  have x9 := blk_cell hx 9
  simp at x0 x1 x2 x3 x4 x5 x6 x7 x8 x9
  have HV1 := Lib.hid (Kd.C_below (Kd.C_below HV.out HB0.out) hb1)
  have HP1 := Lib.hid (Kd.C_below (Kd.C_below HP.out HB0.out) hb1)
  clear hb1 hx
  go_wp2
  exact bodyPost_ret (v := .bool z) (by simp [results, Try.results27, go_sem, hz]) rfl ⟨by rw [HFF.out], HB1.out⟩
theorem tellMay_is (r : Rp) (A1 A2 : Option Addr) (c1 c2 : Nat) (w : World) (hv : Kd.C (Kd.int .i64) w A1 r.vs.length r.vs) (hc1 : r.vs.length ≤ c1) (hp : Kd.C k76 w A2 r.ps.length r.ps) (hc2 : r.ps.length ≤ c2) (hl : r.vs.length ≤ 281474976710656) :
    Calls Try.prog 27 #[.agg #[.int .i64 r.fr, .int .i64 r.to_, .int .i64 r.at_, .slice A1 r.vs.length c1, .int .i64 r.kind, .int .i64 r.code, .int .i64 r.id, .int .i64 r.rate, .int .i64 r.value, .slice A2 r.ps.length c2]] w fun e w' => e = .returned (.bool (tellF r)) ∧ Below w.heap.size w w' := by
  obtain ⟨fr, to_, at_, vs, kind, code, id, rate, value, ps⟩ := r
  by_cases h1 : kind = 1
  · subst h1; exact tell_1 _ _ _ _ _ _ _ _ _ A1 A2 c1 c2 w hv hc1 hp hc2 hl
  by_cases h2 : kind = 2
  · subst h2; exact tell_2 _ _ _ _ _ _ _ _ _ A1 A2 c1 c2 w hv hc1 hp hc2 hl
  by_cases h3 : kind = 3
  · subst h3; exact tell_3 _ _ _ _ _ _ _ _ _ A1 A2 c1 c2 w hv hc1 hp hc2 hl
  by_cases h5 : kind = 5
  · subst h5; exact tell_5 _ _ _ _ _ _ _ _ _ A1 A2 c1 c2 w hv hc1 hp hc2 hl
  exact tell_0 _ _ _ kind _ _ _ _ _ _ A1 A2 c1 c2 w hv hc1 hp hc2 hl (by simpa using h1) (by simpa using h2) (by simpa using h3) (by simpa using h5)
end Go.Proofs.Yteikgpdjfhdneaa.Man
namespace Go.Proofs.Yteikgpdjfhdneaa.Man
open Go.RowKit Go.Proofs.Yteikgpdjfhdneaa.QT Go.Proofs.YteikgpdjfhdneaaW.PrintWords Go.Proofs.YteikgpdjfhdneaaW.PrintLast Go.Proofs.YteikgpdjfhdneaaW.PrintMore
def tell_May.f (a0_0 : Int) (a0_1 : Int) (a0_2 : Int) (l0_3 : List Int) (a0_4 : Int) (a0_5 : Int) (a0_6 : Int) (a0_7 : Int) (a0_8 : Int) (l0_9 : List (S76)) : Option Bool :=
  if l0_3.length ≤ 281474976710656 then some (tellF ⟨a0_0, a0_1, a0_2, l0_3, a0_4, a0_5, a0_6, a0_7, a0_8, l0_9⟩) else none
theorem tell_May.calls (a0_0 : Int) (a0_1 : Int) (a0_2 : Int) (A0_3 : Option Addr) (c0_3 : Nat) (l0_3 : List Int) (a0_4 : Int) (a0_5 : Int) (a0_6 : Int) (a0_7 : Int) (a0_8 : Int) (A0_9 : Option Addr) (c0_9 : Nat) (l0_9 : List (S76)) (r : Bool) (w : World) (hr0_3 : Kd.C (Kd.int .i64) w A0_3 l0_3.length l0_3) (hc0_3 : l0_3.length ≤ c0_3) (hr0_9 : Kd.C k76 w A0_9 l0_9.length l0_9) (hc0_9 : l0_9.length ≤ c0_9) (h : tell_May.f a0_0 a0_1 a0_2 l0_3 a0_4 a0_5 a0_6 a0_7 a0_8 l0_9 = some r) :
    Calls Try.prog 27 #[.agg #[.int .i64 a0_0, .int .i64 a0_1, .int .i64 a0_2, .slice A0_3 l0_3.length c0_3, .int .i64 a0_4, .int .i64 a0_5, .int .i64 a0_6, .int .i64 a0_7, .int .i64 a0_8, .slice A0_9 l0_9.length c0_9]] w fun e w' => e = .returned (.bool r) ∧ Below w.heap.size w w' := by
  unfold tell_May.f at h
  split at h
  · injection h with h
    subst h
    exact tellMay_is ⟨a0_0, a0_1, a0_2, l0_3, a0_4, a0_5, a0_6, a0_7, a0_8, l0_9⟩ A0_3 A0_9 c0_3 c0_9 w hr0_3 hc0_3 hr0_9 hc0_9 (by assumption)
  · cases h
end Go.Proofs.Yteikgpdjfhdneaa.Man
