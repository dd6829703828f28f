/- The law Halls: its call returns true. -/
import Derived.Test.YtildlbmhdiknfaaHallQ
import Derived.Deep.RegionHeld3
import Derived.Deep.LoopGhost
set_option linter.unusedVariables false
namespace Go.Proofs.Ytildlbmhdiknfaa.Man
open Go.RowKit Go.Proofs.YtildlbmhdiknfaaW.PrintWords Go.Proofs.YtildlbmhdiknfaaW.PrintLast Go.Proofs.YtildlbmhdiknfaaW.PrintMore

theorem Two.later {w0 w w' : World} {g r : Nat} {v u : Value} {m : Int} {bs cs : List ByteArray} (T : Two w0 w g r v u m bs cs) (hb : Below w.heap.size w w') : Two w0 w' g r v u m bs cs := ⟨T.h.later hb, T.d.later hb, T.ne, T.vr, T.ug, T.vu⟩

set_option maxHeartbeats 8000000 in
set_option maxRecDepth 100000 in
theorem halls_bad (m : Int) (A1 A2 A3 : Option Addr) (n1 n2 n3 c1 c2 c3 : Nat) (w : World) (hm : m < 1 ∨ m > 4) :
    Calls Try.prog 8 #[.int .i64 m, .slice A1 n1 c1, .slice A2 n2 c2, .slice A3 n3 c3] w fun e w' => e = .returned (.bool true) ∧ Below w.heap.size w w' := by
  have HM := Lib.hid hm
  by_cases h1 : m < 1
  all_goals
    first | (have hd : decide (m < 1) = true := by simpa using h1) | (have hd : decide (m < 1) = false := by simpa using h1)
    first | (have hd2 : decide (m > 4) = true := by simp; omega) | skip
    clear hm h1
    go_enter Try.func8, Try.ntmps8
    go_wp2_with fail
    refine (hall_New_bad m w HM.out).mono ?_
    rintro e w1 ⟨rfl, rfl⟩
    go_wp2_with fail
    refine (awake27 w).mono ?_
    rintro e w2 ⟨rfl, h2⟩
    have H2 := Lib.hid h2
    clear h2
    go_wp2_with fail
    refine (num_is _ _).mono ?_
    rintro e w3 ⟨rfl, rfl⟩
    go_wp2
    go_ret
    exact ⟨rfl, H2.out⟩

/-- The state at a round's head. -/
def Rounds (w : World) (g r : Nat) (m : Int) (n : Nat) (i : Value) (w' : World) : Prop := ∃ (v u : Value) (bs : List ByteArray) (k : Nat), i = .int .i64 (k : Int) ∧ k ≤ n ∧ Two w w' g r v u m bs bs
def Looks (w : World) (g r : Nat) (m : Int) (i : Value) (w' : World) : Prop := ∃ (v u : Value) (bs : List ByteArray) (k : Int), i = .int .i64 k ∧ -1 ≤ k ∧ k ≤ 5 ∧ Two w w' g r v u m bs bs

set_option maxHeartbeats 8000000 in
set_option maxRecDepth 100000 in
theorem halls_true (m : Int) (A1 A2 A3 : Option Addr) (c1 c2 c3 : Nat) (ws ks : List Int) (ts : List ByteArray) (w : World) (hm : 1 ≤ m ∧ m ≤ 4)
    (r1 : Kd.C (Kd.int .i64) w A1 ws.length ws) (q1 : ws.length ≤ c1) (r2 : Kd.C (Kd.int .i64) w A2 ks.length ks) (q2 : ks.length ≤ c2) (r3 : Kd.C Kd.string w A3 ts.length ts) (q3 : ts.length ≤ c3) (hl : ws.length ≤ 1099511627776 * 32) :
    Calls Try.prog 8 #[.int .i64 m, .slice A1 ws.length c1, .slice A2 ks.length c2, .slice A3 ts.length c3] w fun e w' => e = .returned (.bool true) ∧ Below w.heap.size w w' := by
  have R1 := Lib.hid r1
  have R2 := Lib.hid r2
  have R3 := Lib.hid r3
  have HM := Lib.hid hm
  have hd : decide (m < 1) = false := by simp; omega
  have hd2 : decide (m > 4) = false := by simp; omega
  clear r1 r2 r3 hm
  go_enter Try.func8, Try.ntmps8
  go_wp2_with fail
  refine (hall_New m w w HM.out (Below.refl _ _)).mono ?_
  rintro e w1 ⟨rfl, h1, _⟩
  have H1 := Lib.hid h1
  clear h1
  go_wp2_with fail
  refine (num_is _ _).mono ?_
  rintro e w2 ⟨rfl, rfl⟩
  go_wp2_with fail
  have T0 : Hid (Two w (w1.alloc (.cells #[.int .i64 m, .slice none 0 0] 48)) w.heap.size w1.heap.size (.slice none 0 0) (.slice none 0 0) m [] []) := by
    have hB := (Below.refl w1.heap.size w1).alloc (Nat.le_refl _) (.cells #[.int .i64 m, .slice none 0 0] 48)
    refine Lib.hid ⟨H1.out.later hB, ⟨Deep.blk_alloc_new _ _, Kd.R_nil _ _ _ _ _, H1.out.below.size, by simp [Value.ownBlock], H1.out.below.alloc H1.out.below.size _, HM.out.2, by simp, by simp⟩, ?_, by simp [Value.ownBlock], by simp [Value.ownBlock], fun k hk => by simp [Value.ownBlock] at hk⟩
    have := H1.out.lt
    omega
  have hrg := H1.out.lt
  obtain ⟨r, hr⟩ : ∃ r, w1.heap.size = r := ⟨_, rfl⟩
  rw [hr] at T0 ⊢
  clear hrg hr
  go_loopw [12] (Rounds w w.heap.size r m ws.length) (fun i _ => (ws.length - (intOf i).toNat))
  case atStart => exact ⟨_, _, [], 0, rfl, Nat.zero_le _, T0.out⟩
  case round =>
    obtain ⟨v, u, bs, k, rfl, hk, T⟩ := hrel
    have TT := Lib.hid T
    clear T
    have hend : True := trivial
    by_cases k1 : k < ws.length
    case neg =>
      have hd1 : decide ((k : Int) < (ws.length : Int)) = false := by simpa using k1
      go_wp2_with fail
      go_region_with
        (first | (go_at_call 22; refine (awake27 _).mono ?_; rintro e w5 ⟨rfl, h5⟩; have T5 := Lib.hid ((TT.out.drawn (w' := wr.drewN 1) ⟨⟨1, rfl⟩⟩).later h5); clear h5; obtain ⟨Au, cu, rfl⟩ := Kd.R_slice T5.out.d.own; have bx := T5.out.d.c1) | (go_at_call 24; refine (hall_Count w _ w.heap.size v m bs ?_).mono ?_; exact T5.out.h; rintro e w6 ⟨rfl, nd6, rfl⟩))
      all_goals (go_wp2; go_ret; exact ⟨rfl, (T5.out.drawn (by repeat (first | exact Drawn0.refl _ | apply Drawn0.step))).h.below⟩)
    by_cases k2 : k < ks.length
    case neg =>
      have hd1 : decide ((k : Int) < (ws.length : Int)) = true := by simpa using k1
      have hd2 : decide ((k : Int) < (ks.length : Int)) = false := by simpa using k2
      go_wp2_with fail
      go_region_with
        (first | (go_at_call 22; refine (awake27 _).mono ?_; rintro e w5 ⟨rfl, h5⟩; have T5 := Lib.hid ((TT.out.drawn (w' := wr.drewN 1) ⟨⟨1, rfl⟩⟩).later h5); clear h5; obtain ⟨Au, cu, rfl⟩ := Kd.R_slice T5.out.d.own; have bx := T5.out.d.c1) | (go_at_call 24; refine (hall_Count w _ w.heap.size v m bs ?_).mono ?_; exact T5.out.h; rintro e w6 ⟨rfl, nd6, rfl⟩))
      all_goals (go_wp2; go_ret; exact ⟨rfl, (T5.out.drawn (by repeat (first | exact Drawn0.refl _ | apply Drawn0.step))).h.below⟩)
    by_cases k3 : k < ts.length
    case neg =>
      have hd1 : decide ((k : Int) < (ws.length : Int)) = true := by simpa using k1
      have hd2 : decide ((k : Int) < (ks.length : Int)) = true := by simpa using k2
      have hd3 : decide ((k : Int) < (ts.length : Int)) = false := by simpa using k3
      go_wp2_with fail
      go_region_with
        (first | (go_at_call 22; refine (awake27 _).mono ?_; rintro e w5 ⟨rfl, h5⟩; have T5 := Lib.hid ((TT.out.drawn (w' := wr.drewN 1) ⟨⟨1, rfl⟩⟩).later h5); clear h5; obtain ⟨Au, cu, rfl⟩ := Kd.R_slice T5.out.d.own; have bx := T5.out.d.c1) | (go_at_call 24; refine (hall_Count w _ w.heap.size v m bs ?_).mono ?_; exact T5.out.h; rintro e w6 ⟨rfl, nd6, rfl⟩))
      all_goals (go_wp2; go_ret; exact ⟨rfl, (T5.out.drawn (by repeat (first | exact Drawn0.refl _ | apply Drawn0.step))).h.below⟩)
    have hd1 : decide ((k : Int) < (ws.length : Int)) = true := by simpa using k1
    have hd2 : decide ((k : Int) < (ks.length : Int)) = true := by simpa using k2
    have hd3 : decide ((k : Int) < (ts.length : Int)) = true := by simpa using k3
    have hbel := TT.out.h.below
    obtain ⟨a1, e1, x1⟩ := Kd.at_int R1.out (k : Int) (by omega) (by omega)
    obtain ⟨a2, e2, x2⟩ := Kd.at_int R2.out (k : Int) (by omega) (by omega)
    obtain ⟨a3, e3, x3⟩ := Kd.at_string R3.out (k : Int) (by omega) (by omega)
    subst e1 e2 e3
    rw [Int.toNat_natCast] at x1 x2 x3
    generalize rd ws (k : Int) = y1 at x1
    generalize rd ks (k : Int) = y2 at x2
    generalize rdOf ByteArray.empty ts (k : Int) = y3 at x3
    have X : Hid (∀ w', Below w.heap.size w w' → w'.cell? (a1.add k) = some (.int .i64 y1) ∧ w'.cell? (a2.add k) = some (.int .i64 y2) ∧ w'.cell? (a3.add k) = some (.string y3)) := Lib.hid (fun w' hb => ⟨pw_cell_below hb x1, pw_cell_below hb x2, pw_cell_below hb x3⟩)
    clear x1 x2 x3
    obtain ⟨x1, x2, x3⟩ := X.out wr hbel
    clear hbel
    go_upto_region 10 with (fail)
    go_cut [88] (fun s88 wx => s88 = .bool false ∧ Went w wx w.heap.size r m)
    case first =>
      go_region_with
        (first | (go_at_call 23; refine (does_true w _ w.heap.size r v u m bs y1 y2 y3 ?_).mono ?_; (first | exact TT.out | exact TT.out.drawn (by exact ⟨⟨1, rfl⟩⟩)); rintro e w5 ⟨rfl, v5, u5, bs5, t5⟩; obtain ⟨z1, z2, z3⟩ := X.out w5 t5.h.below; obtain ⟨Au, cu, rfl⟩ := Kd.R_slice t5.d.own; have bx := t5.d.c1; have T5 := Lib.hid t5; clear t5) | (go_at_call 24; refine (hall_Count w _ w.heap.size v5 m bs5 ?_).mono ?_; exact T5.out.h; rintro e w6 ⟨rfl, nd6, rfl⟩))
      all_goals (go_wp2_with fail; go_meet; exact ⟨rfl, _, _, _, T5.out.drawn (by repeat (first | exact Drawn0.refl _ | apply Drawn0.step))⟩)
    case rest =>
      obtain ⟨rfl, v5, u5, bs5, t5⟩ := hcut
      have T5 := Lib.hid t5
      clear t5 TT
      go_wp2_with fail
      go_loopw [13] (Looks w w.heap.size r m) (fun i _ => (5 - intOf i).toNat)
      case atStart => exact ⟨_, _, _, -1, rfl, by omega, by omega, T5.out⟩
      case round =>
        obtain ⟨v6, u6, bs6, q, rfl, hq0, hq1, T⟩ := hrel
        have T6 := Lib.hid T
        clear T
        by_cases hq : q ≤ 4
        case neg =>
          have hdq : decide (q ≤ 4) = false := by simpa using hq
          go_wp2
          go_roundw
          case rel => exact ⟨_, _, _, k + 1, by go_num, by omega, T6.out⟩
          case measure => simp [intOf]; omega
        have hdq : decide (q ≤ 4) = true := by simpa using hq
        obtain ⟨x, hx⟩ : ∃ x, boxF bs6 q = x := ⟨_, rfl⟩
        have HX := Lib.hid hx
        clear hx
        obtain ⟨y, hy⟩ : ∃ y, ((nextV x).1 != 0) = y := ⟨_, rfl⟩
        have HY := Lib.hid hy
        clear hy
        go_wp2_with fail
        refine (hall_Inbox w wr w.heap.size _ m bs6 q T6.out.h).mono ?_
        rintro e w7 ⟨rfl, h7⟩
        rw [HX.out]
        have T7 := Lib.hid (T6.out.drawn h7)
        clear h7
        go_wp2_with fail
        refine (doc_Inbox w w7 r _ m bs6 q T7.out.d).mono ?_
        rintro e w8 ⟨rfl, h8⟩
        rw [HX.out]
        have T8 := Lib.hid (T7.out.drawn h8)
        clear h8
        go_wp2_with fail
        refine (hall_Ready w w8 w.heap.size _ m bs6 q T8.out.h).mono ?_
        rintro e w9 ⟨rfl, h9⟩
        rw [HX.out, HY.out]
        have T9 := Lib.hid (T8.out.drawn h9)
        clear h9
        go_wp2_with fail
        refine (doc_Ready w w9 r _ m bs6 q T9.out.d).mono ?_
        rintro e w10 ⟨rfl, h10⟩
        rw [HX.out, HY.out]
        have T10 := Lib.hid (T9.out.drawn h10)
        clear h10
        go_wp2
        go_roundw
        case rel => exact ⟨_, _, _, q + 1, by go_num, by omega, by omega, T10.out⟩
        case measure => simp [intOf]; omega
end Go.Proofs.Ytildlbmhdiknfaa.Man
