/- ProfQ1: texts of this seat laid together by merge.py: ProfA, ProfM, ProfN, ProfP, ProfT, ProfU, ProfV, ProfS, ProfW, ProfX. -/
import Derived.Test.YtbacdpagpdmkoaaSpanA
set_option linter.unusedVariables false
set_option linter.unusedSimpArgs false
/- profile.place: a search by halves, and that the call answers so. -/
namespace Go.Proofs.Ytbacdpagpdmkoaa.Man
open Go.RowKit Go.Proofs.Ytbacdpagpdmkoaa.QT Go.Proofs.YtbacdpagpdmkoaaW.PrintWords Go.Proofs.YtbacdpagpdmkoaaW.PrintLast Go.Proofs.YtbacdpagpdmkoaaW.PrintMore

abbrev Rn := S82
theorem rdR_at (rs : List Rn) (k : Nat) (h : k < rs.length) : rd_T82 rs (k : Int) = rs[k] := by simp [rd_T82, List.getD_eq_getElem?_getD, h]

theorem place_cmp (a b at_ : Int) (w : World) : Calls Try.prog 76 #[.agg #[.int .i64 a, .int .i64 b], .int .i64 at_] w fun e w' => e = .returned (.int .i64 (if a ≤ at_ then -1 else 1)) ∧ Below w.heap.size w w' := by
  by_cases h : a ≤ at_
  · rw [if_pos h]
    go_enter Try.func76, Try.ntmps76
    go_wp2
    go_ret
    exact ⟨rfl, (Below.refl _ _).alloc (Nat.le_refl _) _⟩
  · rw [if_neg h]
    go_enter Try.func76, Try.ntmps76
    go_wp2
    go_ret
    exact ⟨rfl, (Below.refl _ _).alloc (Nat.le_refl _) _⟩

/-- K runs begin at an instant or ahead of it, the others behind it. -/
def Parts (rs : List Rn) (at_ : Int) (K : Nat) : Prop := K ≤ rs.length ∧ (∀ j (h : j < rs.length), j < K → rs[j].f0 ≤ at_) ∧ (∀ j (h : j < rs.length), K ≤ j → at_ < rs[j].f0)
def Halves (w : World) (rs : List Rn) (K : Nat) (i j : Value) (w' : World) : Prop := ∃ a b : Nat, i = .int .i64 (a : Int) ∧ j = .int .i64 (b : Int) ∧ a ≤ K ∧ K ≤ b ∧ b ≤ rs.length ∧ Below w.heap.size w w'

set_option maxHeartbeats 4000000 in
set_option maxRecDepth 100000 in
theorem bsearch_is (A : Option Addr) (c : Nat) (rs : List Rn) (at_ : Int) (K : Nat) (w : World) (hr : Kd.C k82 w A rs.length rs) (hc : rs.length ≤ c) (hl : rs.length ≤ 281474976710656) (hK : Parts rs at_ K) :
    Calls Try.prog 75 #[.slice A rs.length c, .int .i64 at_, .func (.func 76) #[] #[]] w fun e w' => e = .returned (.tuple #[.int .i64 (K : Int), .bool false]) ∧ Below w.heap.size w w' := by
  have HR := Lib.hid hr
  have HK := Lib.hid hK
  clear hr hK
  go_enter Try.func75, Try.ntmps75
  go_wp2_with fail
  go_loopw [9, 10] (Halves w rs K) (fun i j _ => (intOf j).toNat - (intOf i).toNat)
  case atStart => exact ⟨0, rs.length, rfl, rfl, Nat.zero_le _, HK.out.1, Nat.le_refl _, Below.refl _ _⟩
  case round =>
    obtain ⟨a, b, rfl, rfl, ha, hb, hbl, hB⟩ := hrel
    have HB := Lib.hid hB
    clear hB
    by_cases hlt : a < b
    · have hd : decide ((a : Int) < (b : Int)) = true := by simpa using hlt
      have hmlt : (a + b) / 2 < rs.length := by omega
      obtain ⟨ad, rfl, x0, x1⟩ := at_T82 (Kd.C_below HR.out HB.out) (((a + b) / 2 : Nat) : Int) (by omega) (by omega)
      rw [rdR_at rs _ hmlt, Int.toNat_natCast] at x0 x1
      have HP1 : Hid (rs[(a + b) / 2].f0 ≤ at_ → (a + b) / 2 < K) := Lib.hid (fun h => Classical.byContradiction fun hn => by have := HK.out.2.2 _ hmlt (by omega); omega)
      have HP2 : Hid (¬ rs[(a + b) / 2].f0 ≤ at_ → K ≤ (a + b) / 2) := Lib.hid (fun h => Classical.byContradiction fun hn => h (HK.out.2.1 _ hmlt (by omega)))
      generalize rs[(a + b) / 2] = s at x0 x1 HP1 HP2
      by_cases hs : s.f0 ≤ at_
      · have h1 := HP1.out hs
        have HS := Lib.hid hs
        clear hs
        go_wp2_with fail
        refine (place_cmp _ _ _ _).mono ?_
        rintro e w1 ⟨rfl, hb1⟩
        rw [if_pos HS.out]
        have HB1 := Lib.hid hb1
        clear hb1
        go_wp2
        go_roundw
        case rel => exact ⟨(a + b) / 2 + 1, b, by go_num, rfl, by omega, by omega, by omega, below_then HB.out HB.out.size HB1.out⟩
        case measure => simp [intOf]; omega
      · have h1 := HP2.out hs
        have HS := Lib.hid hs
        clear hs
        go_wp2_with fail
        refine (place_cmp _ _ _ _).mono ?_
        rintro e w1 ⟨rfl, hb1⟩
        rw [if_neg (by have := HS.out; omega)]
        have HB1 := Lib.hid hb1
        clear hb1
        go_wp2
        go_roundw
        case rel => exact ⟨a, (a + b) / 2, rfl, by go_num, by omega, by omega, by omega, below_then HB.out HB.out.size HB1.out⟩
        case measure => simp [intOf]; omega
    · obtain rfl : a = K := by omega
      have hd : decide ((a : Int) < (b : Int)) = false := by simpa using hlt
      by_cases hk : a < rs.length
      · have hd2 : decide ((a : Int) < (rs.length : Int)) = true := by simpa using hk
        obtain ⟨ad, rfl, x0, x1⟩ := at_T82 (Kd.C_below HR.out HB.out) (a : Int) (by omega) (by omega)
        rw [rdR_at rs _ hk, Int.toNat_natCast] at x0 x1
        have HS : Hid (¬ rs[a].f0 ≤ at_) := Lib.hid (by have := HK.out.2.2 a hk (Nat.le_refl _); omega)
        generalize rs[a] = s at x0 x1 HS
        go_wp2_with fail
        refine (place_cmp _ _ _ _).mono ?_
        rintro e w1 ⟨rfl, hb1⟩
        rw [if_neg (by have := HS.out; omega)]
        have HB1 := Lib.hid hb1
        clear hb1
        go_wp2
        exact bodyPost_ret (v := .tuple #[.int .i64 (a : Int), .bool false]) (by simp [results, Try.results75, go_sem]) rfl ⟨rfl, below_then HB.out HB.out.size HB1.out⟩
      · have hd2 : decide ((a : Int) < (rs.length : Int)) = false := by simpa using hk
        go_wp2
        exact bodyPost_ret (v := .tuple #[.int .i64 (a : Int), .bool false]) (by simp [results, Try.results75, go_sem]) rfl ⟨rfl, HB.out⟩

/-- Which run lasts at an instant, where the runs' instants rise. -/
theorem place_is (A : Option Addr) (c : Nat) (rs : List Rn) (at_ : Int) (K : Nat) (w : World) (hr : Kd.C k82 w A rs.length rs) (hc : rs.length ≤ c) (hl : rs.length ≤ 281474976710656) (hK : Parts rs at_ K) :
    Calls Try.prog 54 #[.slice A rs.length c, .int .i64 at_] w fun e w' => e = .returned (.int .i64 ((K : Int) - 1)) ∧ Below w.heap.size w w' := by
  have H := Lib.hid (bsearch_is A c rs at_ K w hr hc hl hK)
  have hk : K ≤ 281474976710656 := by have := hK.1; omega
  clear hr hK
  go_enter Try.func54, Try.ntmps54
  go_wp2_with fail
  refine H.out.mono ?_
  rintro e w1 ⟨rfl, hb1⟩
  have HB1 := Lib.hid hb1
  clear hb1
  go_wp2
  go_ret
  exact ⟨by first | rfl | simp, HB1.out⟩
end Go.Proofs.Ytbacdpagpdmkoaa.Man

/- profile.May: what it answers, and that the call answers so. -/
namespace Go.Proofs.Ytbacdpagpdmkoaa.Man
open Go.RowKit Go.Proofs.Ytbacdpagpdmkoaa.QT Go.Proofs.YtbacdpagpdmkoaaW.PrintWords Go.Proofs.YtbacdpagpdmkoaaW.PrintLast Go.Proofs.YtbacdpagpdmkoaaW.PrintMore

def rateF (x : Int) : Bool := decide (0 ≤ x) && decide (x ≤ 4611686018427387904)
theorem rate_is (x : Int) (w : World) : Calls Try.prog 57 #[.int .i64 x] w fun e w' => e = .returned (.bool (rateF x)) ∧ w' = w := by
  unfold rateF
  cases h0 : decide (0 ≤ x)
  · go_enter Try.func57, Try.ntmps57
    go_wp2
    go_ret
    exact ⟨by first | rfl | simp, rfl⟩
  cases h1 : decide (x ≤ 4611686018427387904)
  all_goals
    go_enter Try.func57, Try.ntmps57
    go_wp2
    go_ret
    exact ⟨by first | rfl | simp, rfl⟩

/-- A run that may follow the one ahead. -/
def okRun (p : Option Rn) (r : Rn) : Bool := decide (r.f0 < 4096) && (rateF r.f1 && (match p with | none => true | some q => decide (q.f0 < r.f0) && !(r.f1 == q.f1)))
def okRuns : Option Rn → List Rn → Bool
  | _, [] => true
  | p, r :: rs => okRun p r && okRuns (some r) rs
def mayR (rs : List Rn) : Bool := (match rs with | [] => false | r :: _ => r.f0 == 0) && okRuns none rs
def lastOf : List Rn → Option Rn := List.getLast?
theorem okRuns_snoc (r : Rn) : ∀ (rs : List Rn) (p : Option Rn), okRuns p (rs ++ [r]) = (okRuns p rs && okRun (match rs.getLast? with | none => p | some q => some q) r)
  | [], p => by simp [okRuns]
  | x :: rs, p => by
    rw [List.cons_append, okRuns, okRuns_snoc r rs (some x), okRuns, Bool.and_assoc]
    congr 2
    cases rs with
    | nil => rfl
    | cons y s =>
      obtain ⟨z, hz⟩ : ∃ z, (y :: s).getLast? = some z := ⟨_, List.getLast?_eq_some_getLast (by simp)⟩
      rw [List.getLast?_cons_cons, hz]
theorem okRuns_not {rs : List Rn} {k : Nat} (h : k ≤ rs.length) : ∀ p, okRuns p (rs.take k) = false → okRuns p rs = false := by
  induction rs generalizing k with
  | nil => intro p hh; simpa using hh
  | cons x s ih =>
    intro p hh
    cases k with
    | zero => simp [okRuns] at hh
    | succ k =>
      rw [List.take_succ_cons, okRuns] at hh
      rw [okRuns]
      cases h0 : okRun p x
      · rfl
      · rw [h0, Bool.true_and] at hh
        rw [ih (by simpa using h) (some x) hh]
        rfl
def MayAt (w : World) (rs : List Rn) (i : Value) (w' : World) : Prop := ∃ k : Nat, i = .int .i64 (k : Int) ∧ k ≤ rs.length ∧ okRuns none (rs.take k) = true ∧ Below w.heap.size w w'

set_option maxHeartbeats 8000000 in
set_option maxRecDepth 100000 in
theorem pmay_is (A : Option Addr) (c : Nat) (rs : List Rn) (w : World) (hr : Kd.C k82 w A rs.length rs) (hc : rs.length ≤ c) (hl : rs.length ≤ 281474976710656) :
    Calls Try.prog 37 #[.slice A rs.length c] w fun e w' => e = .returned (.bool (mayR rs)) ∧ Below w.heap.size w w' := by
  cases rs with
  | nil =>
    go_enter Try.func37, Try.ntmps37
    go_wp2
    go_ret
    exact ⟨rfl, Below.refl _ _⟩
  | cons r s =>
  obtain ⟨ad, rfl, z0, z1⟩ := at_T82 hr (0 : Int) (by omega) (by simp)
  have e0 : ad.add ((0 : Int).toNat * 2) = ad := by simp [Addr.add]
  have e1 : rd_T82 (r :: s) 0 = r := rfl
  rw [e0, e1] at z0 z1
  have hpos : (0 : Int) < ((r :: s).length : Int) := by simp
  have hnz : ((((r :: s).length : Nat) : Int) == 0) = false := by simp; omega
  have HR := Lib.hid hr
  clear hr
  by_cases hz : r.f0 = 0
  case neg =>
    have HM : Hid (mayR (r :: s) = false) := Lib.hid (by unfold mayR; simp [hz])
    rw [HM.out]
    generalize r :: s = rs at *
    have hz' : (r.f0 != 0) = true := by simpa using hz
    go_enter Try.func37, Try.ntmps37
    go_wp2
    go_ret
    exact ⟨rfl, Below.refl _ _⟩
  have HM : Hid (mayR (r :: s) = okRuns none (r :: s)) := Lib.hid (by unfold mayR; simp [hz])
  rw [HM.out]
  generalize r :: s = rs at *
  have hz' : (r.f0 != 0) = false := by simpa using hz
  go_enter Try.func37, Try.ntmps37
  go_wp2_with fail
  go_loopw [17] (MayAt w rs) (fun i _ => rs.length - (intOf i).toNat)
  case atStart => exact ⟨0, rfl, Nat.zero_le _, rfl, Below.refl _ _⟩
  case round =>
    obtain ⟨k, rfl, hk, hok, hb⟩ := hrel
    have HB := Lib.hid hb
    have HOK := Lib.hid hok
    clear hb hok
    by_cases hlt : k < rs.length
    · have hd : decide ((k : Int) < (rs.length : Int)) = true := by simpa using hlt
      obtain ⟨ad2, e2, x0, x1⟩ := at_T82 (Kd.C_below HR.out HB.out) (k : Int) (by omega) (by omega)
      injection e2 with e2
      subst e2
      rw [rdR_at rs k hlt, Int.toNat_natCast] at x0 x1
      have HT : Hid (okRuns none (rs.take (k + 1)) = okRun (match (rs.take k).getLast? with | none => none | some q => some q) rs[k]) := Lib.hid (by rw [List.take_succ_eq_append_getElem hlt, okRuns_snoc, HOK.out, Bool.true_and])
      have HN : Hid (okRuns none (rs.take (k + 1)) = false → okRuns none rs = false) := Lib.hid (okRuns_not (by omega) none)
      have hblt := World.block_lt_of_cell? wr _ x0
      obtain ⟨P, hP⟩ : ∃ P, (match (rs.take k).getLast? with | none => none | some q => some q) = P := ⟨_, rfl⟩
      rw [hP] at HT
      have HP : Hid (P = if k = 0 then none else rs[k - 1]?) := Lib.hid (by
        rw [← hP, List.getLast?_take]
        by_cases hk0 : k = 0
        · simp [hk0]
        · rw [if_neg hk0, if_neg hk0]
          have : k - 1 < rs.length := by omega
          simp [this])
      clear hP
      have HQ : Hid (∃ q, rs[k] = q) := Lib.hid ⟨_, rfl⟩
      generalize hqq : rs[k] = q at x0 x1 HT
      clear hqq HQ
      by_cases c0 : q.f0 < 4096
      case neg =>
        have HF : Hid (okRuns none rs = false) := Lib.hid (HN.out (by rw [HT.out]; unfold okRun; simp [c0]))
        have d0 : decide (q.f0 ≥ 4096) = true := by simp; omega
        go_wp2_with fail
        go_region
        go_wp2
        go_ret
        refine ⟨?_, below_drew (HB.out.alloc HB.out.size _)⟩
        rw [HF.out]
        rfl
      have d0 : decide (q.f0 ≥ 4096) = false := by simp; omega
      cases c1 : rateF q.f1
      case false =>
        have HF : Hid (okRuns none rs = false) := Lib.hid (HN.out (by rw [HT.out]; unfold okRun; rw [c1]; simp))
        have HC1 : Hid (∀ W, Calls Try.prog 57 #[.int .i64 q.f1] W fun e w' => e = .returned (.bool false) ∧ w' = W) := Lib.hid (fun W => by have := rate_is q.f1 W; rw [c1] at this; exact this)
        clear c1
        go_wp2_with fail
        go_quiet ((go_at_call 57; exact Calls.quiet_of_same (HC1.out _)))
        go_wp2
        go_ret
        refine ⟨?_, pw_below_drewN (HB.out.alloc HB.out.size _) _⟩
        rw [HF.out]
        rfl
      have HC1 : Hid (∀ W, Calls Try.prog 57 #[.int .i64 q.f1] W fun e w' => e = .returned (.bool true) ∧ w' = W) := Lib.hid (fun W => by have := rate_is q.f1 W; rw [c1] at this; exact this)
      have HR1 : Hid (rateF q.f1 = true) := Lib.hid c1
      clear c1
      cases k with
      | zero =>
        have ea : ad.add (0 * 2) = ad := by simp [Addr.add]
        rw [ea] at x0 x1
        have HF : Hid (okRuns none (rs.take (0 + 1)) = true) := Lib.hid (by rw [HT.out, HP.out]; unfold okRun; rw [HR1.out]; simp [c0])
        go_wp2_with fail
        go_quiet ((go_at_call 57; exact Calls.quiet_of_same (HC1.out _)))
        go_wp2
        go_roundw
        case rel => exact ⟨0 + 1, by go_num, by omega, HF.out, pw_below_drewN (HB.out.alloc HB.out.size _) _⟩
        case measure => simp [intOf]; omega
      | succ j =>
      have hj : j < rs.length := by omega
      obtain ⟨ad3, e3, y0, y1⟩ := at_T82 (Kd.C_below HR.out HB.out) (j : Int) (by omega) (by omega)
      injection e3 with e3
      subst e3
      rw [rdR_at rs j hj, Int.toNat_natCast] at y0 y1
      have HPj : Hid (P = some rs[j]) := Lib.hid (by rw [HP.out]; simp [hj])
      generalize rs[j] = p at y0 y1 HPj
      have hblt2 := World.block_lt_of_cell? wr _ y0
      have hk0 : decide (((j + 1 : Nat) : Int) > 0) = true := by simp
      by_cases c3 : p.f0 < q.f0
      case neg =>
        have HF : Hid (okRuns none rs = false) := Lib.hid (HN.out (by rw [HT.out, HPj.out]; unfold okRun; simp [c3]))
        have d3 : decide (q.f0 ≤ p.f0) = true := by simp; omega
        go_wp2_with fail
        go_quiet ((go_at_call 57; exact Calls.quiet_of_same (HC1.out _)))
        go_wp2
        go_ret
        refine ⟨?_, pw_below_drewN (HB.out.alloc HB.out.size _) _⟩
        rw [HF.out]
        rfl
      have d3 : decide (q.f0 ≤ p.f0) = false := by simp; omega
      by_cases c4 : q.f1 = p.f1
      · have HF : Hid (okRuns none rs = false) := Lib.hid (HN.out (by rw [HT.out, HPj.out]; unfold okRun; simp [c4]))
        have d4 : (q.f1 == p.f1) = true := by simpa using c4
        clear c4
        go_wp2_with fail
        go_quiet ((go_at_call 57; exact Calls.quiet_of_same (HC1.out _)))
        go_wp2
        go_ret
        refine ⟨?_, pw_below_drewN (HB.out.alloc HB.out.size _) _⟩
        rw [HF.out]
        rfl
      · have HF : Hid (okRuns none (rs.take (j + 1 + 1)) = true) := Lib.hid (by rw [HT.out, HPj.out]; unfold okRun; rw [HR1.out]; simp [c0, c3, c4])
        have d4 : (q.f1 == p.f1) = false := by simpa using c4
        go_wp2_with fail
        go_quiet ((go_at_call 57; exact Calls.quiet_of_same (HC1.out _)))
        go_wp2
        go_roundw
        case rel => exact ⟨j + 1 + 1, by go_num, by omega, HF.out, pw_below_drewN (HB.out.alloc HB.out.size _) _⟩
        case measure => simp [intOf]; omega
    · have hd : decide ((k : Int) < (rs.length : Int)) = false := by simpa using hlt
      go_wp2
      go_ret
      refine ⟨?_, HB.out⟩
      have := HOK.out
      rw [List.take_of_length_le (by omega)] at this
      rw [this]
      rfl
end Go.Proofs.Ytbacdpagpdmkoaa.Man

/- tollbarref17.ProfileMay: as profile.May. -/
namespace Go.Proofs.Ytbacdpagpdmkoaa.Man
open Go.RowKit Go.Proofs.Ytbacdpagpdmkoaa.QT Go.Proofs.YtbacdpagpdmkoaaW.PrintWords Go.Proofs.YtbacdpagpdmkoaaW.PrintLast Go.Proofs.YtbacdpagpdmkoaaW.PrintMore

theorem rrate_is (x : Int) (w : World) : Calls Try.prog 58 #[.int .i64 x] w fun e w' => e = .returned (.bool (rateF x)) ∧ w' = w := by
  unfold rateF
  cases h0 : decide (0 ≤ x)
  · go_enter Try.func58, Try.ntmps58
    go_wp2
    go_ret
    exact ⟨by first | rfl | simp, rfl⟩
  cases h1 : decide (x ≤ 4611686018427387904)
  all_goals
    go_enter Try.func58, Try.ntmps58
    go_wp2
    go_ret
    exact ⟨by first | rfl | simp, rfl⟩

set_option maxHeartbeats 8000000 in
set_option maxRecDepth 100000 in
theorem rmay_is (A : Option Addr) (c : Nat) (rs : List Rn) (w : World) (hr : Kd.C k82 w A rs.length rs) (hc : rs.length ≤ c) (hl : rs.length ≤ 281474976710656) :
    Calls Try.prog 38 #[.slice A rs.length c] w fun e w' => e = .returned (.bool (mayR rs)) ∧ Below w.heap.size w w' := by
  cases rs with
  | nil =>
    go_enter Try.func38, Try.ntmps38
    go_wp2
    go_ret
    exact ⟨rfl, Below.refl _ _⟩
  | cons r s =>
  obtain ⟨ad, rfl, z0, z1⟩ := at_T82 hr (0 : Int) (by omega) (by simp)
  have e0 : ad.add ((0 : Int).toNat * 2) = ad := by simp [Addr.add]
  have e1 : rd_T82 (r :: s) 0 = r := rfl
  rw [e0, e1] at z0 z1
  have hpos : (0 : Int) < ((r :: s).length : Int) := by simp
  have hnz : ((((r :: s).length : Nat) : Int) == 0) = false := by simp; omega
  have HR := Lib.hid hr
  clear hr
  by_cases hz : r.f0 = 0
  case neg =>
    have HM : Hid (mayR (r :: s) = false) := Lib.hid (by unfold mayR; simp [hz])
    rw [HM.out]
    generalize r :: s = rs at *
    have hz' : (r.f0 != 0) = true := by simpa using hz
    go_enter Try.func38, Try.ntmps38
    go_wp2
    go_ret
    exact ⟨rfl, Below.refl _ _⟩
  have HM : Hid (mayR (r :: s) = okRuns none (r :: s)) := Lib.hid (by unfold mayR; simp [hz])
  rw [HM.out]
  generalize r :: s = rs at *
  have hz' : (r.f0 != 0) = false := by simpa using hz
  go_enter Try.func38, Try.ntmps38
  go_wp2_with fail
  go_loopw [3] (MayAt w rs) (fun i _ => rs.length - (intOf i).toNat)
  case atStart => exact ⟨0, rfl, Nat.zero_le _, rfl, Below.refl _ _⟩
  case round =>
    obtain ⟨k, rfl, hk, hok, hb⟩ := hrel
    have HB := Lib.hid hb
    have HOK := Lib.hid hok
    clear hb hok
    by_cases hlt : k < rs.length
    · have hd : decide ((k : Int) < (rs.length : Int)) = true := by simpa using hlt
      obtain ⟨ad2, e2, x0, x1⟩ := at_T82 (Kd.C_below HR.out HB.out) (k : Int) (by omega) (by omega)
      injection e2 with e2
      subst e2
      rw [rdR_at rs k hlt, Int.toNat_natCast] at x0 x1
      have HT : Hid (okRuns none (rs.take (k + 1)) = okRun (match (rs.take k).getLast? with | none => none | some q => some q) rs[k]) := Lib.hid (by rw [List.take_succ_eq_append_getElem hlt, okRuns_snoc, HOK.out, Bool.true_and]; try rfl)
      have HN : Hid (okRuns none (rs.take (k + 1)) = false → okRuns none rs = false) := Lib.hid (okRuns_not (by omega) none)
      have hblt := World.block_lt_of_cell? wr _ x0
      obtain ⟨P, hP⟩ : ∃ P, (match (rs.take k).getLast? with | none => none | some q => some q) = P := ⟨_, rfl⟩
      rw [hP] at HT
      have HP : Hid (P = if k = 0 then none else rs[k - 1]?) := Lib.hid (by
        rw [← hP, List.getLast?_take]
        by_cases hk0 : k = 0
        · simp [hk0]
        · rw [if_neg hk0, if_neg hk0]
          have : k - 1 < rs.length := by omega
          simp [this])
      clear hP
      have HQ : Hid (∃ q, rs[k] = q) := Lib.hid ⟨_, rfl⟩
      generalize hqq : rs[k] = q at x0 x1 HT
      clear hqq HQ
      by_cases c0 : q.f0 < 4096
      case neg =>
        have HF : Hid (okRuns none rs = false) := Lib.hid (HN.out (by rw [HT.out]; unfold okRun; simp [c0]))
        have d0 : decide (q.f0 ≥ 4096) = true := by simp; omega
        go_wp2_with fail
        go_region
        go_wp2
        go_ret
        refine ⟨?_, below_drew (HB.out)⟩
        rw [HF.out]
        rfl
      have d0 : decide (q.f0 ≥ 4096) = false := by simp; omega
      cases c1 : rateF q.f1
      case false =>
        have HF : Hid (okRuns none rs = false) := Lib.hid (HN.out (by rw [HT.out]; unfold okRun; rw [c1]; simp))
        have HC1 : Hid (∀ W, Calls Try.prog 58 #[.int .i64 q.f1] W fun e w' => e = .returned (.bool false) ∧ w' = W) := Lib.hid (fun W => by have := rrate_is q.f1 W; rw [c1] at this; exact this)
        clear c1
        go_wp2_with fail
        go_quiet ((go_at_call 58; exact Calls.quiet_of_same (HC1.out _)))
        go_wp2
        go_ret
        refine ⟨?_, pw_below_drewN (HB.out) _⟩
        rw [HF.out]
        rfl
      have HC1 : Hid (∀ W, Calls Try.prog 58 #[.int .i64 q.f1] W fun e w' => e = .returned (.bool true) ∧ w' = W) := Lib.hid (fun W => by have := rrate_is q.f1 W; rw [c1] at this; exact this)
      have HR1 : Hid (rateF q.f1 = true) := Lib.hid c1
      clear c1
      cases k with
      | zero =>
        have ea : ad.add (0 * 2) = ad := by simp [Addr.add]
        rw [ea] at x0 x1
        have HF : Hid (okRuns none (rs.take (0 + 1)) = true) := Lib.hid (by rw [HT.out, HP.out]; unfold okRun; rw [HR1.out]; simp [c0])
        go_wp2_with fail
        go_quiet ((go_at_call 58; exact Calls.quiet_of_same (HC1.out _)))
        go_wp2
        go_roundw
        case rel => exact ⟨0 + 1, by go_num, by omega, HF.out, pw_below_drewN (HB.out) _⟩
        case measure => simp [intOf]; omega
      | succ j =>
      have hj : j < rs.length := by omega
      obtain ⟨ad3, e3, y0, y1⟩ := at_T82 (Kd.C_below HR.out HB.out) (j : Int) (by omega) (by omega)
      injection e3 with e3
      subst e3
      rw [rdR_at rs j hj, Int.toNat_natCast] at y0 y1
      have HPj : Hid (P = some rs[j]) := Lib.hid (by rw [HP.out]; simp [hj])
      generalize rs[j] = p at y0 y1 HPj
      have hblt2 := World.block_lt_of_cell? wr _ y0
      have hk0 : decide (((j + 1 : Nat) : Int) > 0) = true := by simp
      by_cases c3 : p.f0 < q.f0
      case neg =>
        have HF : Hid (okRuns none rs = false) := Lib.hid (HN.out (by rw [HT.out, HPj.out]; unfold okRun; simp [c3]))
        have d3 : decide (q.f0 ≤ p.f0) = true := by simp; omega
        go_wp2_with fail
        go_quiet ((go_at_call 58; exact Calls.quiet_of_same (HC1.out _)))
        go_wp2
        go_ret
        refine ⟨?_, pw_below_drewN (HB.out) _⟩
        rw [HF.out]
        rfl
      have d3 : decide (q.f0 ≤ p.f0) = false := by simp; omega
      by_cases c4 : q.f1 = p.f1
      · have HF : Hid (okRuns none rs = false) := Lib.hid (HN.out (by rw [HT.out, HPj.out]; unfold okRun; simp [c4]))
        have d4 : (q.f1 == p.f1) = true := by simpa using c4
        clear c4
        go_wp2_with fail
        go_quiet ((go_at_call 58; exact Calls.quiet_of_same (HC1.out _)))
        go_wp2
        go_ret
        refine ⟨?_, pw_below_drewN (HB.out) _⟩
        rw [HF.out]
        rfl
      · have HF : Hid (okRuns none (rs.take (j + 1 + 1)) = true) := Lib.hid (by rw [HT.out, HPj.out]; unfold okRun; rw [HR1.out]; simp [c0, c3, c4])
        have d4 : (q.f1 == p.f1) = false := by simpa using c4
        go_wp2_with fail
        go_quiet ((go_at_call 58; exact Calls.quiet_of_same (HC1.out _)))
        go_wp2
        go_roundw
        case rel => exact ⟨j + 1 + 1, by go_num, by omega, HF.out, pw_below_drewN (HB.out) _⟩
        case measure => simp [intOf]; omega
    · have hd : decide ((k : Int) < (rs.length : Int)) = false := by simpa using hlt
      go_wp2
      go_ret
      refine ⟨?_, HB.out⟩
      have := HOK.out
      rw [List.take_of_length_le (by omega)] at this
      rw [this]
      rfl
end Go.Proofs.Ytbacdpagpdmkoaa.Man

/- Profiles in plain words: their instants rise; how many runs begin at an instant or ahead of it. -/
namespace Go.Proofs.Ytbacdpagpdmkoaa.Man
open Go.RowKit Go.Proofs.Ytbacdpagpdmkoaa.QT Go.Proofs.YtbacdpagpdmkoaaW.PrintWords Go.Proofs.YtbacdpagpdmkoaaW.PrintLast Go.Proofs.YtbacdpagpdmkoaaW.PrintMore

def Rise (rs : List Rn) : Prop := rs.Pairwise (fun a b => a.f0 < b.f0)
theorem ok_rise : ∀ (rs : List Rn) (p : Option Rn), okRuns p rs = true → (∀ q, p = some q → ∀ r ∈ rs, q.f0 < r.f0) ∧ Rise rs ∧ ∀ r ∈ rs, r.f0 < 4096 ∧ rateF r.f1 = true
  | [], p, _ => ⟨fun _ _ r hr => by (cases hr), List.Pairwise.nil, fun r hr => by (cases hr)⟩
  | x :: rs, p, h => by
    rw [okRuns, Bool.and_eq_true] at h
    obtain ⟨h1, h2⟩ := h
    obtain ⟨i1, i2, i3⟩ := ok_rise rs (some x) h2
    unfold okRun at h1
    simp only [Bool.and_eq_true, decide_eq_true_eq] at h1
    obtain ⟨g1, g2, g3⟩ := h1
    have hx : ∀ q, p = some q → q.f0 < x.f0 := by
      intro q hq
      subst hq
      simp only [Bool.and_eq_true, decide_eq_true_eq] at g3
      exact g3.1
    refine ⟨fun q hq r hr => ?_, List.Pairwise.cons (fun r hr => i1 x rfl r hr) i2, fun r hr => ?_⟩
    · rcases List.mem_cons.1 hr with rfl | hr
      · exact hx q hq
      · have := i1 x rfl r hr
        have := hx q hq
        omega
    · rcases List.mem_cons.1 hr with rfl | hr
      · exact ⟨g1, g2⟩
      · exact i3 r hr
def cnt (rs : List Rn) (t : Int) : Nat := (rs.takeWhile fun r => decide (r.f0 ≤ t)).length
theorem parts_cnt : ∀ (rs : List Rn) (t : Int), Rise rs → Parts rs t (cnt rs t)
  | [], t, _ => ⟨Nat.le_refl _, fun j h => by (cases h), fun j h => by (cases h)⟩
  | x :: rs, t, h => by
    have ih := parts_cnt rs t (List.pairwise_cons.1 h).2
    have hx := (List.pairwise_cons.1 h).1
    by_cases hc : x.f0 ≤ t
    · have e : cnt (x :: rs) t = cnt rs t + 1 := by unfold cnt; rw [List.takeWhile_cons_of_pos (by simpa using hc)]; rfl
      rw [e]
      refine ⟨by have := ih.1; simp; omega, fun j hj hlt => ?_, fun j hj hle => ?_⟩
      · cases j with
        | zero => exact hc
        | succ j => exact ih.2.1 j (by simpa using hj) (by omega)
      · cases j with
        | zero => omega
        | succ j => exact ih.2.2 j (by simpa using hj) (by omega)
    · have e : cnt (x :: rs) t = 0 := by unfold cnt; rw [List.takeWhile_cons_of_neg (by simpa using hc)]; rfl
      rw [e]
      refine ⟨Nat.zero_le _, fun j hj hlt => by omega, fun j hj hle => ?_⟩
      cases j with
      | zero => show t < x.f0; omega
      | succ j =>
        have hj2 : j < rs.length := by simpa using hj
        have := hx rs[j] (List.getElem_mem hj2)
        show t < rs[j].f0
        omega
theorem cnt_pos {rs : List Rn} {t : Int} (h : mayR rs = true) (ht : 0 ≤ t) : 0 < cnt rs t := by
  cases rs with
  | nil => simp [mayR] at h
  | cons x rs =>
    unfold mayR at h
    simp only [Bool.and_eq_true, beq_iff_eq] at h
    unfold cnt
    rw [List.takeWhile_cons_of_pos (by simp; omega)]
    simp
theorem may_ok {rs : List Rn} (h : mayR rs = true) : okRuns none rs = true := by
  unfold mayR at h
  simp only [Bool.and_eq_true] at h
  exact h.2
theorem may_rise {rs : List Rn} (h : mayR rs = true) : Rise rs := (ok_rise rs none (may_ok h)).2.1
end Go.Proofs.Ytbacdpagpdmkoaa.Man

/- profile.At: what it answers, and that the call answers so. -/
namespace Go.Proofs.Ytbacdpagpdmkoaa.Man
open Go.RowKit Go.Proofs.Ytbacdpagpdmkoaa.QT Go.Proofs.YtbacdpagpdmkoaaW.PrintWords Go.Proofs.YtbacdpagpdmkoaaW.PrintLast Go.Proofs.YtbacdpagpdmkoaaW.PrintMore

/-- The load at an instant. -/
def loadAt (rs : List Rn) (t : Int) : Int := (rd_T82 rs ((cnt rs t : Int) - 1)).f1
def atF (rs : List Rn) (t : Int) : Int × Int := if mayR rs = true ∧ (0 ≤ t ∧ t < 4096) then (loadAt rs t, 0) else (0, 1800)

set_option maxHeartbeats 8000000 in
set_option maxRecDepth 100000 in
theorem at_is (A : Option Addr) (c : Nat) (rs : List Rn) (t : Int) (w : World) (hr : Kd.C k82 w A rs.length rs) (hc : rs.length ≤ c) (hl : rs.length ≤ 281474976710656) :
    Calls Try.prog 32 #[.slice A rs.length c, .int .i64 t] w fun e w' => e = .returned (.tuple #[.int .i64 (atF rs t).1, .int .i64 (atF rs t).2]) ∧ Below w.heap.size w w' := by
  have HR := Lib.hid hr
  clear hr
  obtain ⟨F, hF⟩ : ∃ F, atF rs t = F := ⟨_, rfl⟩
  rw [hF]
  have HF := Lib.hid hF
  clear hF
  have HM := Lib.hid (pmay_is A c rs w HR.out hc hl)
  cases hm : mayR rs
  case false =>
    rw [hm] at HM
    obtain rfl : F = (0, 1800) := by rw [← HF.out]; unfold atF; rw [if_neg (by simp [hm])]
    clear hm
    go_enter Try.func32, Try.ntmps32
    go_wp2_with fail
    refine HM.out.mono ?_
    rintro e w1 ⟨rfl, hb1⟩
    have HB1 := Lib.hid hb1
    clear hb1
    go_wp2
    exact bodyPost_ret (v := .tuple #[.int .i64 0, .int .i64 1800]) (by simp [results, Try.results32, go_sem]) rfl ⟨rfl, HB1.out⟩
  rw [hm] at HM
  by_cases h0 : 0 ≤ t
  case neg =>
    obtain rfl : F = (0, 1800) := by rw [← HF.out]; unfold atF; rw [if_neg (by simp [h0])]
    have d0 : decide (t < 0) = true := by simp; omega
    clear hm
    go_enter Try.func32, Try.ntmps32
    go_wp2_with fail
    refine HM.out.mono ?_
    rintro e w1 ⟨rfl, hb1⟩
    have HB1 := Lib.hid hb1
    clear hb1
    go_wp2
    exact bodyPost_ret (v := .tuple #[.int .i64 0, .int .i64 1800]) (by simp [results, Try.results32, go_sem]) rfl ⟨rfl, HB1.out⟩
  have d0 : decide (t < 0) = false := by simp; omega
  by_cases h1 : t < 4096
  case neg =>
    obtain rfl : F = (0, 1800) := by rw [← HF.out]; unfold atF; rw [if_neg (by simp [h1])]
    have d1 : decide (t ≥ 4096) = true := by simp; omega
    clear hm
    go_enter Try.func32, Try.ntmps32
    go_wp2_with fail
    refine HM.out.mono ?_
    rintro e w1 ⟨rfl, hb1⟩
    have HB1 := Lib.hid hb1
    clear hb1
    go_wp2
    exact bodyPost_ret (v := .tuple #[.int .i64 0, .int .i64 1800]) (by simp [results, Try.results32, go_sem]) rfl ⟨rfl, HB1.out⟩
  have d1 : decide (t ≥ 4096) = false := by simp; omega
  obtain rfl : F = (loadAt rs t, 0) := by rw [← HF.out]; unfold atF; rw [if_pos ⟨hm, h0, h1⟩]
  have hP := parts_cnt rs t (may_rise hm)
  have hpos := cnt_pos hm h0
  obtain ⟨K, hK⟩ : ∃ K, cnt rs t = K + 1 := ⟨cnt rs t - 1, by omega⟩
  have hkl : K < rs.length := by have := hP.1; omega
  have HL : Hid (loadAt rs t = (rd_T82 rs (K : Int)).f1) := Lib.hid (by unfold loadAt; rw [hK, show ((K + 1 : Nat) : Int) - 1 = (K : Int) by omega])
  have HPL := Lib.hid (fun w2 hb => place_is A c rs t (cnt rs t) w2 (Kd.C_below HR.out hb) hc hl hP)
  rw [hK] at HPL
  rw [HL.out]
  clear hm hP hpos hK
  go_enter Try.func32, Try.ntmps32
  go_wp2_with fail
  refine HM.out.mono ?_
  rintro e w1 ⟨rfl, hb1⟩
  have HB1 := Lib.hid hb1
  clear hb1
  go_wp2_with fail
  refine (HPL.out _ HB1.out).mono ?_
  rintro e w2 ⟨rfl, hb2⟩
  have HB2 := Lib.hid (below_then HB1.out HB1.out.size hb2)
  obtain ⟨ad, rfl, x0, x1⟩ := at_T82 (Kd.C_below HR.out HB2.out) (K : Int) (by omega) (by omega)
  rw [Int.toNat_natCast] at x0 x1
  have hw : ((K + 1 : Nat) : Int) - 1 = (K : Int) := by omega
  rw [hw]
  clear hb2
  go_wp2
  exact bodyPost_ret (v := .tuple #[.int .i64 (rd_T82 rs (K : Int)).f1, .int .i64 0]) (by simp [results, Try.results32, go_sem]) rfl ⟨rfl, HB2.out⟩
end Go.Proofs.Ytbacdpagpdmkoaa.Man

/- profile.Most: what it answers, and that the call answers so. -/
namespace Go.Proofs.Ytbacdpagpdmkoaa.Man
open Go.RowKit Go.Proofs.Ytbacdpagpdmkoaa.QT Go.Proofs.YtbacdpagpdmkoaaW.PrintWords Go.Proofs.YtbacdpagpdmkoaaW.PrintLast Go.Proofs.YtbacdpagpdmkoaaW.PrintMore

def stepM (b : Int) (p : Int × Int) (r : Rn) : Int × Int := if r.f0 < b ∧ p.1 < r.f1 then (r.f1, r.f0) else p
def topM (b : Int) (p : Int × Int) (rs : List Rn) : Int × Int := rs.foldl (stepM b) p
theorem topM_snoc (b : Int) (p : Int × Int) (rs : List Rn) (k : Nat) (h : k < rs.length) : topM b p (rs.take (k + 1)) = stepM b (topM b p (rs.take k)) rs[k] := by
  unfold topM
  rw [List.take_succ_eq_append_getElem h, List.foldl_append, List.foldl_cons, List.foldl_nil]
def mostF (rs : List Rn) (a b : Int) : Int × Int × Int := if mayR rs = true ∧ mayF a b = true then ((topM b (loadAt rs a, a) (rs.drop (cnt rs a))).1, (topM b (loadAt rs a, a) (rs.drop (cnt rs a))).2, 0) else (0, 0, 1800)
def MostAt (w : World) (a b : Int) (p0 : Int × Int) (q : List Rn) (l t i : Value) (w' : World) : Prop := ∃ k : Nat, i = .int .i64 (k : Int) ∧ k ≤ q.length ∧ l = .int .i64 (topM b p0 (q.take k)).1 ∧ t = .int .i64 (topM b p0 (q.take k)).2 ∧ Below w.heap.size w w' ∧ w'.heap[w.heap.size]? = some (.cells #[.int .i64 a, .int .i64 b] 23 (0, 0))

set_option maxHeartbeats 8000000 in
set_option maxRecDepth 100000 in
theorem most_is (A : Option Addr) (c : Nat) (rs : List Rn) (a b : Int) (w : World) (hr : Kd.C k82 w A rs.length rs) (hc : rs.length ≤ c) (hl : rs.length ≤ 281474976710656) :
    Calls Try.prog 34 #[.slice A rs.length c, .agg #[.int .i64 a, .int .i64 b]] w fun e w' => e = .returned (.tuple #[.int .i64 (mostF rs a b).1, .int .i64 (mostF rs a b).2.1, .int .i64 (mostF rs a b).2.2]) ∧ Below w.heap.size w w' := by
  have HR := Lib.hid hr
  clear hr
  obtain ⟨F, hF⟩ : ∃ F, mostF rs a b = F := ⟨_, rfl⟩
  rw [hF]
  have HF := Lib.hid hF
  clear hF
  obtain ⟨m, hm⟩ : ∃ m, mayR rs = m := ⟨_, rfl⟩
  have HM : Hid (∀ W, Below w.heap.size w W → Calls Try.prog 37 #[.slice A rs.length c] W fun e w' => e = .returned (.bool m) ∧ Below W.heap.size W w') := Lib.hid (fun W hb => by rw [← hm]; exact pmay_is A c rs W (Kd.C_below HR.out hb) hc hl)
  cases m with
  | false =>
    obtain rfl : F = (0, 0, 1800) := by rw [← HF.out]; unfold mostF; rw [if_neg (by simp [hm])]
    clear hm
    go_enter Try.func34, Try.ntmps34
    go_wp2_with fail
    refine (HM.out _ ((Below.refl w.heap.size w).alloc (Nat.le_refl _) _)).mono ?_
    rintro e w1 ⟨rfl, hb1⟩
    have HB1 := Lib.hid (below_then ((Below.refl w.heap.size w).alloc (Nat.le_refl _) _) (by simp) hb1)
    clear hb1
    go_wp2
    exact bodyPost_ret (v := .tuple #[.int .i64 0, .int .i64 0, .int .i64 1800]) (by simp [results, Try.results34, go_sem]) rfl ⟨rfl, HB1.out⟩
  | true =>
  obtain ⟨s, hs⟩ : ∃ s, mayF a b = s := ⟨_, rfl⟩
  have HS : Hid (∀ W, Calls Try.prog 17 #[.agg #[.int .i64 a, .int .i64 b]] W fun e w' => e = .returned (.bool s) ∧ Below W.heap.size W w') := Lib.hid (fun W => by rw [← hs]; exact may_is a b W)
  cases s with
  | false =>
    obtain rfl : F = (0, 0, 1800) := by rw [← HF.out]; unfold mostF; rw [if_neg (by simp [hs])]
    clear hm hs
    go_enter Try.func34, Try.ntmps34
    go_wp2_with fail
    refine (HM.out _ ((Below.refl w.heap.size w).alloc (Nat.le_refl _) _)).mono ?_
    rintro e w1 ⟨rfl, hb1⟩
    have HB1 := Lib.hid (below_then ((Below.refl w.heap.size w).alloc (Nat.le_refl _) _) (by simp) hb1)
    have hblk := blk_below (blk_new w (.cells #[.int .i64 a, .int .i64 b] 23 (0, 0))) hb1
    have c0 := blk_cell hblk 0
    have c1 := blk_cell hblk 1
    simp at c0 c1
    clear hb1
    go_wp2_with fail
    refine (HS.out _).mono ?_
    rintro e w2 ⟨rfl, hb2⟩
    have HB2 := Lib.hid (below_then HB1.out HB1.out.size hb2)
    clear hb2
    go_wp2
    exact bodyPost_ret (v := .tuple #[.int .i64 0, .int .i64 0, .int .i64 1800]) (by simp [results, Try.results34, go_sem]) rfl ⟨rfl, HB2.out⟩
  | true =>
  have ha0 : 0 ≤ a := (mayF_true.1 hs).1
  have hP := parts_cnt rs a (may_rise hm)
  have hpos := cnt_pos hm ha0
  obtain rfl : F = ((topM b (loadAt rs a, a) (rs.drop (cnt rs a))).1, (topM b (loadAt rs a, a) (rs.drop (cnt rs a))).2, 0) := by rw [← HF.out]; unfold mostF; rw [if_pos ⟨hm, hs⟩]
  obtain ⟨K, hK⟩ : ∃ K, cnt rs a = K + 1 := ⟨cnt rs a - 1, by omega⟩
  have hkl : K < rs.length := by have := hP.1; omega
  have HL : Hid (loadAt rs a = (rd_T82 rs (K : Int)).f1) := Lib.hid (by unfold loadAt; rw [hK, show ((K + 1 : Nat) : Int) - 1 = (K : Int) by omega])
  have HPL := Lib.hid (fun w2 hb => place_is A c rs a (cnt rs a) w2 (Kd.C_below HR.out hb) hc hl hP)
  rw [hK] at HPL
  rw [hK, HL.out]
  obtain ⟨ad0, rfl, _⟩ := HR.out.2.2 (by omega : 0 < rs.length)
  obtain ⟨i0, hi0, _, hsz0, _⟩ := info_parts info82
  have hcut := cut_from (P := Try.prog) 50 82 .i64 Try.underlying50 hi0 2 hsz0 (some ad0) rs.length c ((K : Int) + 1) (by omega) (by omega)
  have hKn : ((K : Int) + 1).toNat = K + 1 := by omega
  rw [hKn] at hcut
  obtain ⟨A', hA'⟩ : ∃ A', (if c = K + 1 then some ad0 else (some ad0).map (·.add ((K + 1) * 2))) = A' := ⟨_, rfl⟩
  have HC1 : Hid (k82.C w A' (rs.drop (K + 1)).length (rs.drop (K + 1))) := by
    have := Kd.C_drop HR.out (m := K + 1) (by omega) hc
    rw [← hA']
    exact Lib.hid this
  rw [hA', show rs.length - (K + 1) = (rs.drop (K + 1)).length by simp] at hcut
  have hql : (rs.drop (K + 1)).length ≤ 281474976710656 := by simp; omega
  obtain ⟨q, hq⟩ : ∃ q, rs.drop (K + 1) = q := ⟨_, rfl⟩
  rw [hq] at HC1 hcut hql
  rw [hq]
  clear hm hs hP hpos hK hi0 hsz0 hKn hA' hq
  go_enter Try.func34, Try.ntmps34
  go_wp2_with fail
  refine (HM.out _ ((Below.refl w.heap.size w).alloc (Nat.le_refl _) _)).mono ?_
  rintro e w1 ⟨rfl, hb1⟩
  have HB1 := Lib.hid (below_then ((Below.refl w.heap.size w).alloc (Nat.le_refl _) _) (by simp) hb1)
  have hblk := blk_below (blk_new w (.cells #[.int .i64 a, .int .i64 b] 23 (0, 0))) hb1
  have c0 := blk_cell hblk 0
  have c1 := blk_cell hblk 1
  simp at c0 c1
  clear hb1
  go_wp2_with fail
  refine (HS.out _).mono ?_
  rintro e w2 ⟨rfl, hb2⟩
  have HB2 := Lib.hid (below_then HB1.out HB1.out.size hb2)
  have hblk2 := blk_below hblk hb2
  clear c0 c1 hb2
  have c0 := blk_cell hblk2 0
  have c1 := blk_cell hblk2 1
  simp at c0 c1
  go_wp2_with fail
  refine (HPL.out _ HB2.out).mono ?_
  rintro e w3 ⟨rfl, hb3⟩
  have HB3 := Lib.hid (below_then HB2.out HB2.out.size hb3)
  have hblk3 := blk_below hblk2 hb3
  clear c0 c1 hb3
  have c0 := blk_cell hblk3 0
  have c1 := blk_cell hblk3 1
  simp at c0 c1
  obtain ⟨ad, e9, x0, x1⟩ := at_T82 (Kd.C_below HR.out HB3.out) (K : Int) (by omega) (by omega)
  injection e9 with e9
  subst e9
  rw [Int.toNat_natCast] at x0 x1
  have hw : ((K + 1 : Nat) : Int) - 1 = (K : Int) := by omega
  rw [hw]
  go_wp2
  go_region
  go_wp2_with fail
  have HB3D : Hid (Below w.heap.size w w3.drew) := Lib.hid (below_drew HB3.out)
  have HBLK : Hid (w3.drew.heap[w.heap.size]? = some (.cells #[.int .i64 a, .int .i64 b] 23 (0, 0))) := Lib.hid hblk3
  clear x0 x1 c0 c1 hblk hblk2 hblk3
  go_loopw [8, 9, 36] (MostAt w a b ((rd_T82 rs (K : Int)).f1, a) q) (fun _ _ i _ => q.length - (intOf i).toNat)
  case atStart => exact ⟨0, rfl, Nat.zero_le _, rfl, rfl, HB3D.out, HBLK.out⟩
  case round =>
    obtain ⟨k, rfl, hk, rfl, rfl, hb, hr0⟩ := hrel
    have B1 := Lib.hid hb
    have B2 := Lib.hid hr0
    have c0 := blk_cell hr0 0
    have c1 := blk_cell hr0 1
    simp at c0 c1
    have hwl := blk_lt hr0
    have HS' := Lib.hid (topM_snoc b ((rd_T82 rs (K : Int)).f1, a) q k)
    obtain ⟨pq, hpq⟩ : ∃ pq, topM b ((rd_T82 rs (K : Int)).f1, a) (q.take k) = pq := ⟨_, rfl⟩
    rw [hpq] at HS'
    rw [hpq]
    obtain ⟨l, t⟩ := pq
    have HPQ := Lib.hid hpq
    clear hb hr0 hpq
    by_cases hlt : k < q.length
    · have HS2 := Lib.hid (HS'.out hlt)
      obtain ⟨ad3, rfl, y0, y1⟩ := at_T82 (Kd.C_below HC1.out B1.out) (k : Int) (by omega) (by omega)
      rw [rdR_at q k hlt, Int.toNat_natCast] at y0 y1
      generalize q[k] = r at y0 y1 HS2
      have hd : decide ((k : Int) < (q.length : Int)) = true := by simpa using hlt
      by_cases g1 : r.f0 < b
      case neg =>
        have d1 : decide (r.f0 < b) = false := by simp; omega
        have HV : Hid (topM b ((rd_T82 rs (K : Int)).f1, a) (q.take (k + 1)) = (l, t)) := Lib.hid (by rw [HS2.out]; unfold stepM; rw [if_neg (fun h => g1 h.1)])
        go_wp2
        go_roundw
        case rel => exact ⟨k + 1, by go_num, by omega, by rw [HV.out], by rw [HV.out], B1.out.alloc B1.out.size _, blk_alloc B2.out _⟩
        case measure => simp [intOf]; omega
      have d1 : decide (r.f0 < b) = true := by simpa using g1
      by_cases g2 : l < r.f1
      case neg =>
        have d2 : decide (r.f1 > l) = false := by simp; omega
        have HV : Hid (topM b ((rd_T82 rs (K : Int)).f1, a) (q.take (k + 1)) = (l, t)) := Lib.hid (by rw [HS2.out]; unfold stepM; rw [if_neg (fun h => g2 h.2)])
        go_wp2
        go_roundw
        case rel => exact ⟨k + 1, by go_num, by omega, by rw [HV.out], by rw [HV.out], B1.out.alloc B1.out.size _, blk_alloc B2.out _⟩
        case measure => simp [intOf]; omega
      have d2 : decide (r.f1 > l) = true := by simpa using g2
      have HV : Hid (topM b ((rd_T82 rs (K : Int)).f1, a) (q.take (k + 1)) = (r.f1, r.f0)) := Lib.hid (by rw [HS2.out]; unfold stepM; rw [if_pos ⟨g1, g2⟩])
      go_wp2_with fail
      go_region
      go_wp2
      go_roundw
      case rel => exact ⟨k + 1, by go_num, by omega, by rw [HV.out], by rw [HV.out], below_drew (B1.out.alloc B1.out.size _), blk_alloc B2.out _⟩
      case measure => simp [intOf]; omega
    · have hd : decide ((k : Int) < (q.length : Int)) = false := by simpa using hlt
      have HFIN : Hid (topM b ((rd_T82 rs (K : Int)).f1, a) q = (l, t)) := Lib.hid (by rw [← HPQ.out, List.take_of_length_le (by omega)])
      go_wp2
      rw [HFIN.out]
      exact bodyPost_ret (v := .tuple #[.int .i64 l, .int .i64 t, .int .i64 0]) (by simp [results, Try.results34, go_sem]) rfl ⟨rfl, B1.out⟩
end Go.Proofs.Ytbacdpagpdmkoaa.Man

/- profile.tidy: whether a run says what the one ahead says. -/
namespace Go.Proofs.Ytbacdpagpdmkoaa.Man
open Go.RowKit Go.Proofs.Ytbacdpagpdmkoaa.QT Go.Proofs.YtbacdpagpdmkoaaW.PrintWords Go.Proofs.YtbacdpagpdmkoaaW.PrintLast Go.Proofs.YtbacdpagpdmkoaaW.PrintMore

theorem tidy_eq (a b c d : Int) (w : World) : Calls Try.prog 81 #[.agg #[.int .i64 a, .int .i64 b], .agg #[.int .i64 c, .int .i64 d]] w fun e w' => e = .returned (.bool (b == d)) ∧ Below w.heap.size w w' := by
  go_enter Try.func81, Try.ntmps81
  go_wp2
  go_ret
  exact ⟨rfl, ((Below.refl _ _).alloc (Nat.le_refl _) _).alloc (by simp) _⟩

theorem clip_is (g o n c : Nat) (w : World) (h : n ≤ c) (hn : n ≤ 281474976710656) : Calls Try.prog 79 #[.slice (some ⟨g, o, none⟩) n c] w fun e w' => e = .returned (.slice (some ⟨g, o, none⟩) n n) ∧ w' = w := by
  have h1 : (0 : Int) ≤ (n : Int) := by omega
  have h2 : (n : Int) ≤ (c : Int) := by omega
  go_enter Try.func79, Try.ntmps79
  go_wp2
  go_ret
  exact ⟨rfl, rfl⟩
end Go.Proofs.Ytbacdpagpdmkoaa.Man

/- rate.Sum: what it answers, and that the call answers so. -/
namespace Go.Proofs.Ytbacdpagpdmkoaa.Man
open Go.RowKit Go.Proofs.Ytbacdpagpdmkoaa.QT Go.Proofs.YtbacdpagpdmkoaaW.PrintWords Go.Proofs.YtbacdpagpdmkoaaW.PrintLast Go.Proofs.YtbacdpagpdmkoaaW.PrintMore

def sumR : Int → List Int → Int × Bool
  | acc, [] => (acc, true)
  | acc, x :: r => if rateF x = true ∧ x ≤ 4611686018427387904 - acc then sumR (acc + x) r else (0, false)
def SumAt (w : World) (xs : List Int) (t i : Value) (w' : World) : Prop := ∃ (k : Nat) (acc : Int), i = .int .i64 (k : Int) ∧ t = .int .i64 acc ∧ k ≤ xs.length ∧ 0 ≤ acc ∧ acc ≤ 4611686018427387904 ∧ sumR 0 xs = sumR acc (xs.drop k) ∧ w' = w

set_option maxHeartbeats 4000000 in
set_option maxRecDepth 100000 in
theorem sum_is (A : Option Addr) (c : Nat) (xs : List Int) (w : World) (hr : (Kd.int .i64).C w A xs.length xs) (hc : xs.length ≤ c) (hl : xs.length ≤ 281474976710656) :
    Calls Try.prog 68 #[.slice A xs.length c] w fun e w' => e = .returned (.tuple #[.int .i64 (sumR 0 xs).1, .bool (sumR 0 xs).2]) ∧ w' = w := by
  have HR := Lib.hid hr
  clear hr
  go_enter Try.func68, Try.ntmps68
  go_wp2_with fail
  go_loopw [4, 9] (SumAt w xs) (fun _ i _ => xs.length - (intOf i).toNat)
  case atStart => exact ⟨0, 0, rfl, rfl, Nat.zero_le _, by omega, by omega, rfl, rfl⟩
  case round =>
    obtain ⟨k, acc, rfl, rfl, hk, h0, h1, hs, rfl⟩ := hrel
    have HS := Lib.hid hs
    clear hs
    by_cases hlt : k < xs.length
    · obtain ⟨ad, rfl, x0⟩ := Kd.at_int HR.out (k : Int) (by omega) (by omega)
      have hx : rd xs (k : Int) = xs[k] := by simp [rd, List.getD_eq_getElem?_getD, hlt]
      have HD : Hid (xs.drop k = xs[k] :: xs.drop (k + 1)) := Lib.hid (List.drop_eq_getElem_cons hlt)
      rw [hx, Int.toNat_natCast] at x0
      clear hx
      generalize xs[k] = x at x0 HD
      have hd : decide ((k : Int) < (xs.length : Int)) = true := by simpa using hlt
      have hw : wrap64 (4611686018427387904 - acc) = 4611686018427387904 - acc := by unfold wrap64; omega
      cases c1 : rateF x
      · have HF : Hid (sumR 0 xs = (0, false)) := Lib.hid (by rw [HS.out, HD.out, sumR, if_neg (by simp [c1])])
        have HC : Hid (rateF x = false) := Lib.hid c1
        clear c1 hw
        go_wp2_with fail
        refine (rate_is _ _).mono ?_
        rintro e w1 ⟨rfl, rfl⟩
        rw [HC.out]
        go_wp2
        exact bodyPost_ret (v := .tuple #[.int .i64 0, .bool false]) (by simp [results, Try.results68, go_sem]) rfl ⟨by rw [HF.out], rfl⟩
      · have HC : Hid (rateF x = true) := Lib.hid c1
        have hxr : 0 ≤ x ∧ x ≤ 4611686018427387904 := by unfold rateF at c1; simpa using c1
        by_cases c2 : x ≤ 4611686018427387904 - acc
        · have HF : Hid (sumR 0 xs = sumR (acc + x) (xs.drop (k + 1))) := Lib.hid (by rw [HS.out, HD.out, sumR, if_pos ⟨c1, c2⟩])
          have d2 : decide (x > 4611686018427387904 - acc) = false := by simp; omega
          clear c1 hw
          go_wp2_with fail
          refine (rate_is _ _).mono ?_
          rintro e w1 ⟨rfl, rfl⟩
          rw [HC.out]
          go_wp2
          go_roundw
          case rel => exact ⟨k + 1, acc + x, by go_num, by first | rfl | simp, by omega, by omega, by omega, HF.out, rfl⟩
          case measure => simp [intOf]; omega
        · have HF : Hid (sumR 0 xs = (0, false)) := Lib.hid (by rw [HS.out, HD.out, sumR, if_neg (fun h => c2 h.2)])
          have d2 : decide (x > 4611686018427387904 - acc) = true := by simp; omega
          clear c1 hw
          go_wp2_with fail
          refine (rate_is _ _).mono ?_
          rintro e w1 ⟨rfl, rfl⟩
          rw [HC.out]
          go_wp2
          exact bodyPost_ret (v := .tuple #[.int .i64 0, .bool false]) (by simp [results, Try.results68, go_sem]) rfl ⟨by rw [HF.out], rfl⟩
    · have hd : decide ((k : Int) < (xs.length : Int)) = false := by simpa using hlt
      have HF : Hid (sumR 0 xs = (acc, true)) := Lib.hid (by rw [HS.out, List.drop_of_length_le (by omega), sumR])
      go_wp2
      exact bodyPost_ret (v := .tuple #[.int .i64 acc, .bool true]) (by simp [results, Try.results68, go_sem]) rfl ⟨by rw [HF.out], rfl⟩
end Go.Proofs.Ytbacdpagpdmkoaa.Man

/- rate.Meter: with, Add, Total of one number; profile.sum. -/
namespace Go.Proofs.Ytbacdpagpdmkoaa.Man
open Go.RowKit Go.Proofs.Ytbacdpagpdmkoaa.QT Go.Proofs.YtbacdpagpdmkoaaW.PrintWords Go.Proofs.YtbacdpagpdmkoaaW.PrintLast Go.Proofs.YtbacdpagpdmkoaaW.PrintMore

theorem total_is (g : Nat) (t : Int) (w : World) (hg : w.heap[g]? = some (.cells #[.int .i64 t] 101 (0, 0))) : Calls Try.prog 78 #[.pointer (some ⟨g, 0, none⟩)] w fun e w' => e = .returned (.int .i64 t) ∧ w' = w := by
  have c0 := blk_cell hg 0
  simp at c0
  go_enter Try.func78, Try.ntmps78
  go_wp2
  go_ret
  exact ⟨rfl, rfl⟩

theorem lit2_C (W : World) (x y : Int) : (Kd.int .i64).C (W.alloc (.cells #[.int .i64 x, .int .i64 y] 3)) (some ⟨W.heap.size, 0, none⟩) 2 [x, y] := by
  have h : Kd.R (Kd.int .i64) 3 (W.alloc (.cells #[.int .i64 x, .int .i64 y] 3)) W.heap.size (fun _ => True) (.slice (some ⟨W.heap.size, 0, none⟩) 2 2) [x, y] :=
    ⟨fun _ _ => trivial, _, World.ownsRow_lit (base := W.heap.size) (e := 3) (size := 1) W _ 2 (Nat.le_refl _) (by decide) rfl, Reps.snoc (Reps.snoc (Reps.none _ _) (show (Kd.int .i64).M _ _ _ x [.int .i64 x] from rfl) rfl) (show (Kd.int .i64).M _ _ _ y [.int .i64 y] from rfl) rfl⟩
  obtain ⟨A, c, e, _, hC⟩ := Kd.R_reads h
  injection e with e1 e2 e3
  rw [e1]
  exact hC

def withR (t : Int) (xs : List Int) : Int × Bool := if (sumR 0 xs).2 = true then sumR 0 [t, (sumR 0 xs).1] else (0, false)
set_option maxHeartbeats 4000000 in
set_option maxRecDepth 100000 in
theorem with_is (g : Nat) (t : Int) (A : Option Addr) (c : Nat) (xs : List Int) (w : World) (hg : w.heap[g]? = some (.cells #[.int .i64 t] 101 (0, 0))) (hr : (Kd.int .i64).C w A xs.length xs) (hc : xs.length ≤ c) (hl : xs.length ≤ 281474976710656) :
    Calls Try.prog 96 #[.pointer (some ⟨g, 0, none⟩), .slice A xs.length c] w fun e w' => e = .returned (.tuple #[.int .i64 (withR t xs).1, .bool (withR t xs).2]) ∧ Below w.heap.size w w' := by
  have HS := Lib.hid (sum_is A c xs w hr hc hl)
  have c0 := blk_cell hg 0
  simp at c0
  obtain ⟨p, hp⟩ : ∃ p, sumR 0 xs = p := ⟨_, rfl⟩
  rw [hp] at HS
  have HW : Hid (withR t xs = if p.2 = true then sumR 0 [t, p.1] else (0, false)) := Lib.hid (by unfold withR; rw [hp])
  clear hp hr hg
  obtain ⟨m, ok⟩ := p
  cases ok with
  | false =>
    go_enter Try.func96, Try.ntmps96
    go_wp2_with fail
    refine HS.out.mono ?_
    rintro e w1 ⟨rfl, rfl⟩
    go_wp2
    exact bodyPost_ret (v := .tuple #[.int .i64 0, .bool false]) (by simp [results, Try.results96, go_sem]) rfl ⟨by rw [HW.out]; rfl, Below.refl _ _⟩
  | true =>
    have HL := Lib.hid (sum_is (some ⟨w.heap.size, 0, none⟩) 2 [t, m] (w.alloc (.cells #[.int .i64 t, .int .i64 m] 3)) (lit2_C w t m) (by simp) (by simp))
    have HW2 : Hid (withR t xs = sumR 0 [t, m]) := Lib.hid (by rw [HW.out]; rfl)
    go_enter Try.func96, Try.ntmps96
    go_wp2_with fail
    refine HS.out.mono ?_
    rintro e w1 ⟨rfl, rfl⟩
    go_wp2_with fail
    refine HL.out.mono ?_
    rintro e w2 ⟨rfl, rfl⟩
    go_wp2
    exact bodyPost_ret (v := .tuple #[.int .i64 (sumR 0 [t, m]).1, .bool (sumR 0 [t, m]).2]) (by simp [results, Try.results96, go_sem]) rfl ⟨by rw [HW2.out], (Below.refl _ _).alloc (Nat.le_refl _) _⟩

def addR (t : Int) (xs : List Int) : Int := if (withR t xs).2 = true then (withR t xs).1 else t
set_option maxHeartbeats 4000000 in
set_option maxRecDepth 100000 in
theorem add_is (g : Nat) (t : Int) (A : Option Addr) (c : Nat) (xs : List Int) (n₀ : Nat) (w0 w : World) (hg : w.heap[g]? = some (.cells #[.int .i64 t] 101 (0, 0))) (hr : (Kd.int .i64).C w A xs.length xs) (hc : xs.length ≤ c) (hl : xs.length ≤ 281474976710656) (hn : n₀ ≤ g) (hb0 : Below n₀ w0 w) :
    Calls Try.prog 77 #[.pointer (some ⟨g, 0, none⟩), .slice A xs.length c] w fun e w' => e = .returned (.bool (withR t xs).2) ∧ Below n₀ w0 w' ∧ w'.heap[g]? = some (.cells #[.int .i64 (addR t xs)] 101 (0, 0)) := by
  have HS := Lib.hid (with_is g t A c xs w hg hr hc hl)
  have HG := Lib.hid hg
  have HB0 := Lib.hid hb0
  have hglt := blk_lt hg
  obtain ⟨p, hp⟩ : ∃ p, withR t xs = p := ⟨_, rfl⟩
  have HA : Hid (addR t xs = if p.2 = true then p.1 else t) := Lib.hid (by unfold addR; rw [hp])
  rw [hp] at HS
  rw [hp]
  clear hp hr hg hb0
  obtain ⟨m, ok⟩ := p
  cases ok with
  | false =>
    go_enter Try.func77, Try.ntmps77
    go_wp2_with fail
    refine HS.out.mono ?_
    rintro e w1 ⟨rfl, hb1⟩
    have HB1 := Lib.hid hb1
    clear hb1
    go_wp2
    go_ret
    exact ⟨rfl, HB0.out.trans (HB1.out.mono (by omega)), by rw [HA.out]; exact blk_below HG.out HB1.out⟩
  | true =>
    go_enter Try.func77, Try.ntmps77
    go_wp2_with fail
    refine HS.out.mono ?_
    rintro e w1 ⟨rfl, hb1⟩
    have HB1 := Lib.hid hb1
    have hg1 := blk_below HG.out hb1
    have c0 := blk_cell hg1 0
    have f0 := blk_frozen hg1 0
    simp at c0
    clear hb1
    go_wp2
    go_ret
    exact ⟨rfl, (HB0.out.trans (HB1.out.mono (by omega))).setCell (p := ⟨g, 0, none⟩) hn _, by rw [HA.out]; simpa using blk_set hg1 0 (.int .i64 m)⟩
end Go.Proofs.Ytbacdpagpdmkoaa.Man

/- profile.sum: what weights are together at an instant. -/
namespace Go.Proofs.Ytbacdpagpdmkoaa.Man
open Go.RowKit Go.Proofs.Ytbacdpagpdmkoaa.QT Go.Proofs.YtbacdpagpdmkoaaW.PrintWords Go.Proofs.YtbacdpagpdmkoaaW.PrintLast Go.Proofs.YtbacdpagpdmkoaaW.PrintMore

abbrev Wt := S73
theorem rdW_at (ws : List Wt) (k : Nat) (h : k < ws.length) : rd_T73 ws (k : Int) = ws[k] := by simp [rd_T73, List.getD_eq_getElem?_getD, h]
theorem lit1_C (W : World) (x : Int) : (Kd.int .i64).C (W.alloc (.cells #[.int .i64 x] 3)) (some ⟨W.heap.size, 0, none⟩) 1 [x] := by
  have h : Kd.R (Kd.int .i64) 3 (W.alloc (.cells #[.int .i64 x] 3)) W.heap.size (fun _ => True) (.slice (some ⟨W.heap.size, 0, none⟩) 1 1) [x] :=
    ⟨fun _ _ => trivial, _, World.ownsRow_lit (base := W.heap.size) (e := 3) (size := 1) W _ 1 (Nat.le_refl _) (by decide) rfl, Reps.snoc (Reps.none _ _) (show (Kd.int .i64).M _ _ _ x [.int .i64 x] from rfl) rfl⟩
  obtain ⟨A, c, e, _, hC⟩ := Kd.R_reads h
  injection e with e1 e2 e3
  rw [e1]
  exact hC
/-- The weights' sum at an instant, from some total on. -/
def wsumR (t : Int) : Int → List Wt → Int × Bool
  | acc, [] => (acc, true)
  | acc, x :: r => if hasF x.f0.f0 x.f0.f1 t = true then (if (withR acc [x.f1]).2 = true then wsumR t (withR acc [x.f1]).1 r else (0, false)) else wsumR t acc r

def WsumAt (w : World) (t : Int) (ws : List Wt) (i : Value) (w' : World) : Prop := ∃ (k : Nat) (acc : Int), i = .int .i64 (k : Int) ∧ k ≤ ws.length ∧ wsumR t 0 ws = wsumR t acc (ws.drop k) ∧ Below w.heap.size w w' ∧ w'.heap[w.heap.size]? = some (.cells #[.int .i64 acc] 101 (0, 0))
set_option maxHeartbeats 4000000 in
set_option maxRecDepth 100000 in
theorem wsum_is (A : Option Addr) (c : Nat) (ws : List Wt) (t : Int) (w : World) (hr : Kd.C k73 w A ws.length ws) (hc : ws.length ≤ c) (hl : ws.length ≤ 281474976710656) :
    Calls Try.prog 60 #[.slice A ws.length c, .int .i64 t] w fun e w' => e = .returned (.tuple #[.int .i64 (wsumR t 0 ws).1, .bool (wsumR t 0 ws).2]) ∧ Below w.heap.size w w' := by
  have HR := Lib.hid hr
  clear hr
  go_enter Try.func60, Try.ntmps60
  go_wp2_with fail
  go_loopw [11] (WsumAt w t ws) (fun i _ => ws.length - (intOf i).toNat)
  case atStart => exact ⟨0, 0, rfl, Nat.zero_le _, rfl, (Below.refl w.heap.size w).alloc (Nat.le_refl _) _, blk_new _ _⟩
  case round =>
    obtain ⟨k, acc, rfl, hk, hs, hb, hg⟩ := hrel
    have HS := Lib.hid hs
    have HB := Lib.hid hb
    have HG := Lib.hid hg
    have hglt := blk_lt hg
    clear hs hb hg
    by_cases hlt : k < ws.length
    · obtain ⟨ad, rfl, x0, x1, x2⟩ := at_T73 (Kd.C_below HR.out HB.out) (k : Int) (by omega) (by omega)
      have HD : Hid (ws.drop k = ws[k] :: ws.drop (k + 1)) := Lib.hid (List.drop_eq_getElem_cons hlt)
      rw [rdW_at ws k hlt, Int.toNat_natCast] at x0 x1 x2
      generalize ws[k] = x at x0 x1 x2 HD
      have hd : decide ((k : Int) < (ws.length : Int)) = true := by simpa using hlt
      obtain ⟨hv, hhv⟩ : ∃ hv, hasF x.f0.f0 x.f0.f1 t = hv := ⟨_, rfl⟩
      have HH : Hid (∀ W, Calls Try.prog 19 #[.agg #[.int .i64 x.f0.f0, .int .i64 x.f0.f1], .int .i64 t] W fun e w' => e = .returned (.bool hv) ∧ Below W.heap.size W w') := Lib.hid (fun W => by rw [← hhv]; exact has_is _ _ _ W)
      have HV := Lib.hid hhv
      clear hhv
      go_wp2_with fail
      refine (HH.out _).mono ?_
      rintro e w1 ⟨rfl, hb1⟩
      have HB1 := Lib.hid (below_then (HB.out.alloc HB.out.size (.cells #[.int .i64 x.f0.f0, .int .i64 x.f0.f1, .int .i64 x.f1] 73)) (by have := HB.out.size; simp; omega) hb1)
      have HG1 := Lib.hid (blk_below (blk_alloc HG.out _) hb1)
      have hx := blk_below (blk_new wr (.cells #[.int .i64 x.f0.f0, .int .i64 x.f0.f1, .int .i64 x.f1] 73 (0, 0))) hb1
      have c2 := blk_cell hx 2
      simp at c2
      clear hb1 hx
      cases hv with
      | false =>
        have HF : Hid (wsumR t 0 ws = wsumR t acc (ws.drop (k + 1))) := Lib.hid (by rw [HS.out, HD.out, wsumR, if_neg (by rw [HV.out]; decide)])
        go_wp2
        go_roundw
        case rel => exact ⟨k + 1, acc, by go_num, by omega, HF.out, HB1.out, HG1.out⟩
        case measure => simp [intOf]; omega
      | true =>
        go_wp2_with fail
        refine (add_is w.heap.size acc (some ⟨w1.heap.size, 0, none⟩) 1 [x.f1] w.heap.size w _ (blk_alloc HG1.out _) (lit1_C w1 x.f1) (by simp) (by simp) (Nat.le_refl _) (HB1.out.alloc HB1.out.size _)).mono ?_
        rintro e w2 ⟨rfl, hb2, hg2⟩
        have HB2 := Lib.hid hb2
        have HG2 := Lib.hid hg2
        clear hb2 hg2
        obtain ⟨ok, hok⟩ : ∃ ok, (withR acc [x.f1]).2 = ok := ⟨_, rfl⟩
        rw [hok]
        have HOK := Lib.hid hok
        clear hok
        cases ok with
        | false =>
          have HF : Hid (wsumR t 0 ws = (0, false)) := Lib.hid (by rw [HS.out, HD.out, wsumR, if_pos HV.out, if_neg (by rw [HOK.out]; decide)])
          go_wp2
          exact bodyPost_ret (v := .tuple #[.int .i64 0, .bool false]) (by simp [results, Try.results60, go_sem]) rfl ⟨by rw [HF.out], HB2.out⟩
        | true =>
          have HF : Hid (wsumR t 0 ws = wsumR t (withR acc [x.f1]).1 (ws.drop (k + 1))) := Lib.hid (by rw [HS.out, HD.out, wsumR, if_pos HV.out, if_pos HOK.out])
          have HA : Hid (addR acc [x.f1] = (withR acc [x.f1]).1) := Lib.hid (by unfold addR; rw [if_pos HOK.out])
          go_wp2
          go_roundw
          case rel => exact ⟨k + 1, (withR acc [x.f1]).1, by go_num, by omega, HF.out, HB2.out, by rw [← HA.out]; exact HG2.out⟩
          case measure => simp [intOf]; omega
    · have hd : decide ((k : Int) < (ws.length : Int)) = false := by simpa using hlt
      have HF : Hid (wsumR t 0 ws = (acc, true)) := Lib.hid (by rw [HS.out, List.drop_of_length_le (by omega), wsumR])
      go_wp2_with fail
      refine (total_is w.heap.size acc wr HG.out).mono ?_
      rintro e w1 ⟨rfl, rfl⟩
      go_wp2
      exact bodyPost_ret (v := .tuple #[.int .i64 acc, .bool true]) (by simp [results, Try.results60, go_sem]) rfl ⟨by rw [HF.out], HB.out⟩
end Go.Proofs.Ytbacdpagpdmkoaa.Man
