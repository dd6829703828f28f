/- calendar.MayAsk and ask.May at this dump. -/
import Derived.Test.YtikblicmnfnomaaAskF
import Derived.Test.YtikblicmnfnomaaWEqStruct
import Derived.Deep.OwnRows
import Derived.Lib.Hide
import Derived.Outline
set_option linter.unusedVariables false
namespace Go.Proofs.Ytikblicmnfnomaa.Man
open Go.RowKit Go.Proofs.YtikblicmnfnomaaW.PrintWords Go.Proofs.YtikblicmnfnomaaW.PrintLast Go.Proofs.YtikblicmnfnomaaW.PrintMore

theorem eqS (d : Nat) (w : World) (x0 y0 : Int) (x1 y1 : Int) :
    (Op.equalIn (d + 2) 44 (.agg #[.int .i64 x0, .int .i64 x1]) (.agg #[.int .i64 y0, .int .i64 y1])).run Try.prog w = .ok (x0 == y0 && (x1 == y1)) w := by
  refine eqA_of Try.underlying44 (by kernel_rfl) ?_
  refine eqf_cons (by rfl) (by go_simp; rfl) (by go_simp; rfl) (by go_simp) ?_
  exact eqf_last (by rfl) (by go_simp; rfl) (by go_simp; rfl) (by go_simp)
def eqB7 (x0 x1 x2 x3 x4 x5 x6 y0 y1 y2 y3 y4 y5 y6 : Int) : Bool := ((x0 == y0 && (x1 == y1)) && (x2 == y2 && (x3 == y3 && (x4 == y4 && (x5 == y5 && (x6 == y6))))))
theorem eqQ (d : Nat) (w : World) (x0 y0 : Int) (x1 y1 : Int) (x2 y2 : Int) (x3 y3 : Int) (x4 y4 : Int) (x5 y5 : Int) (x6 y6 : Int) :
    (Op.equalIn (d + 3) 46 (.agg #[.int .i64 x0, .int .i64 x1, .int .i64 x2, .int .i64 x3, .int .i64 x4, .int .i64 x5, .int .i64 x6]) (.agg #[.int .i64 y0, .int .i64 y1, .int .i64 y2, .int .i64 y3, .int .i64 y4, .int .i64 y5, .int .i64 y6])).run Try.prog w = .ok (eqB7 x0 x1 x2 x3 x4 x5 x6 y0 y1 y2 y3 y4 y5 y6) w := by
  refine eqA_of Try.underlying46 (by kernel_rfl) ?_
  refine eqf_cons (by rfl) (by go_simp) (by go_simp) (eqS (d + 0) w _ _ _ _) ?_
  refine eqf_cons (by rfl) (by go_simp; rfl) (by go_simp; rfl) (by go_simp) ?_
  refine eqf_cons (by rfl) (by go_simp; rfl) (by go_simp; rfl) (by go_simp) ?_
  refine eqf_cons (by rfl) (by go_simp; rfl) (by go_simp; rfl) (by go_simp) ?_
  refine eqf_cons (by rfl) (by go_simp; rfl) (by go_simp; rfl) (by go_simp) ?_
  exact eqf_last (by rfl) (by go_simp; rfl) (by go_simp; rfl) (by go_simp)


attribute [local go_sem high] eqQ
def qcells (a b k i s d r : Int) (j : Nat) : Int := match j with | 0 => a | 1 => b | 2 => k | 3 => i | 4 => s | 5 => d | 6 => r | _ => 0
def pcells (k : Int) (os : List Nat) (Q : Nat → Int) (n : Nat) (j : Nat) : Int := if j ∈ os.take n then Q j else if j = 2 then k else 0
def ptrAt (g : Nat) (os : List Nat) (j : Nat) : Value := .pointer (some ⟨g, os.getD j 0, none⟩)

theorem below_drewN {B : Nat} {a w : World} (h : Below B a w) (n : Nat) : Below B a (w.drewN n) := ⟨h.os, h.tape, h.output, h.size, h.block⟩
theorem row_below {B b n : Nat} {t : TypeId} {f : Nat → Value} {w w' : World} (h : w.rowIs b t n f) (hb : Below B w w') (hlt : b < B) : w'.rowIs b t n f := h.of_block (hb.block b hlt)

/-- What Fields leaves: a fresh row of pointers. -/
theorem fields_row (g : Nat) (kind : Int) (w : World) (hk : w.cell? ⟨g, 2, none⟩ = some (.int .i64 kind)) (hne : offsK kind ≠ []) :
    Calls Try.prog 39 #[.pointer (some ⟨g, 0, none⟩)] w fun e w' => e = .returned (.slice (some ⟨w.heap.size, 0, none⟩) (offsK kind).length (offsK kind).length) ∧ Below w.heap.size w w' ∧ w'.heap.size = w.heap.size + 1 ∧ w'.rowIs w.heap.size 70 (offsK kind).length (ptrAt g (offsK kind)) := by
  refine (fields_any g kind w hk).mono ?_
  rintro e w' (⟨h, _⟩ | ⟨_, rfl, n, rfl⟩)
  · exact absurd h hne
  refine ⟨rfl, below_drewN ((Below.refl _ _).alloc (Nat.le_refl _) _) _, by simp, ?_⟩
  have := World.rowIs_alloc w (ptrs g (offsK kind)) 70 (ptrAt g (offsK kind)) (fun i hi => by
    simp [ptrs] at hi
    simp [ptrs, ptrAt, List.getD, hi])
  have t : (w.alloc (.cells (ptrs g (offsK kind)) 70)).rowIs w.heap.size 70 (offsK kind).length (ptrAt g (offsK kind)) := by simpa [ptrs] using this
  exact t

/-- Whether the fields that the kind names may be and nothing else stands there. -/
def onlyK (k : Int) (os : List Nat) (Q : Nat → Int) : Bool :=
  eqB7 (pcells k os Q os.length 0) (pcells k os Q os.length 1) (pcells k os Q os.length 2) (pcells k os Q os.length 3) (pcells k os Q os.length 4) (pcells k os Q os.length 5) (pcells k os Q os.length 6) (Q 0) (Q 1) (Q 2) (Q 3) (Q 4) (Q 5) (Q 6)
def mayK (k : Int) (os : List Nat) (Q : Nat → Int) : Bool := os.all (fun o => decide (0 ≤ Q o) && decide (Q o ≤ 4611686018427387904)) && onlyK k os Q

set_option maxHeartbeats 4000000 in
set_option maxRecDepth 100000 in
theorem mayAsk_loop (a b k i s d r : Int) (w : World) (hne : offsK k ≠ []) :
    Calls Try.prog 40 #[.agg #[.int .i64 a, .int .i64 b, .int .i64 k, .int .i64 i, .int .i64 s, .int .i64 d, .int .i64 r]] w fun e w' => e = .returned (.bool (mayK k (offsK k) (qcells a b k i s d r))) ∧ Below w.heap.size w w' := by
  obtain ⟨os, hos⟩ : ∃ os, offsK k = os := ⟨_, rfl⟩
  have h7 : ∀ o ∈ offsK k, o < 7 := by
    unfold offsK
    repeat' split
    all_goals decide
  have hl : (offsK k).length ≤ 5 := by
    unfold offsK
    repeat' split
    all_goals decide
  rw [hos] at h7 hl
  have HL : 0 < os.length := by
    rw [← hos]
    exact List.length_pos_iff.2 hne
  obtain ⟨Q, hQ⟩ : ∃ Q, qcells a b k i s d r = Q := ⟨_, rfl⟩
  rw [hos, hQ]
  go_enter Try.func40, Try.ntmps40
  go_wp2_with fail
  refine (fields_row _ k _ (by simp) hne).mono ?_
  rintro e w1 ⟨rfl, hb1, hs1, hr1⟩
  rw [hos] at hr1 ⊢
  simp only [show ∀ (u : World) (o : Obj), (u.alloc o).heap.size = u.heap.size + 1 from fun u o => by simp] at hb1 hs1 hr1
  have hq1 : w1.rowIs w.heap.size 46 7 (fun j => .int .i64 (Q j)) := by
    refine row_below ?_ hb1 (by omega)
    refine World.rowIs.alloc ?_ _
    refine World.rowIs_alloc w _ _ _ (fun j hj => ?_)
    subst hQ
    match j with
    | 0 | 1 | 2 | 3 | 4 | 5 | 6 => rfl
    | n + 7 => exact absurd (show n + 7 < 7 from hj) (by omega)
  have hp1 : w1.rowIs (w.heap.size + 1) 46 7 (fun j => .int .i64 (pcells k os Q 0 j)) := by
    refine row_below ?_ hb1 (by omega)
    have := World.rowIs_alloc (w.alloc (.cells #[.int .i64 a, .int .i64 b, .int .i64 k, .int .i64 i, .int .i64 s, .int .i64 d, .int .i64 r] 46)) #[.int .i64 0, .int .i64 0, .int .i64 k, .int .i64 0, .int .i64 0, .int .i64 0, .int .i64 0] 46 (fun j => .int .i64 (pcells k os Q 0 j)) (fun j hj => by
      match j with
      | 0 | 1 | 2 | 3 | 4 | 5 | 6 => simp [pcells]
      | n + 7 => exact absurd (show n + 7 < 7 from hj) (by omega))
    simpa using this
  have hB1 := (((Below.refl w.heap.size w).alloc (Nat.le_refl _) _).alloc (by simp) _).trans (hb1.mono (by omega))
  clear hb1
  have hk1 := hp1.cell (i := 2) (by decide)
  simp only [pcells, List.take_zero, List.not_mem_nil, if_false, if_true] at hk1
  go_wp2_with fail
  refine (fields_row _ k _ hk1 hne).mono ?_
  rintro e w2 ⟨rfl, hb2, hs2, hr2⟩
  rw [hos] at hr2 ⊢
  simp only [hs1] at hb2 hs2 hr2 ⊢
  have hq2 := row_below hq1 hb2 (by omega)
  have hp2 := row_below hp1 hb2 (by omega)
  have hr12 := row_below hr1 hb2 (by omega)
  have hB2 := hB1.trans (hb2.mono (by omega))
  clear hk1 hq1 hp1 hr1 hb2 hB1
  go_wp2
  go_loopw [13] (fun x wr => ∃ n : Nat, n ≤ os.length ∧ x = .int .i64 n ∧ wr.rowIs w.heap.size 46 7 (fun j => .int .i64 (Q j)) ∧ wr.rowIs (w.heap.size + 1) 46 7 (fun j => .int .i64 (pcells k os Q n j)) ∧ wr.rowIs (w.heap.size + 1 + 1) 70 os.length (ptrAt w.heap.size os) ∧ wr.rowIs (w.heap.size + 1 + 1 + 1) 70 os.length (ptrAt (w.heap.size + 1) os) ∧ Below w.heap.size w wr ∧ ((os.take n).all (fun o => decide (0 ≤ Q o) && decide (Q o ≤ 4611686018427387904)) = true)) (fun x _ => os.length - (intOf x).toNat)
  case atStart => exact ⟨0, Nat.zero_le _, rfl, hq2, hp2, hr12, hr2, hB2, by simp⟩
  case round =>
    obtain ⟨n, hn, rfl, hq, hp, hr1, hr2', hb, hall⟩ := hrel
    clear hq2 hp2 hr12 hr2 hB2
    by_cases hlt : n < os.length
    · have c1 := hr2'.cell hlt
      have c2 := hr1.cell hlt
      obtain ⟨o, ho⟩ : ∃ o, os.getD n 0 = o := ⟨_, rfl⟩
      simp only [ptrAt, ho] at c1 c2
      have ho7 : o < 7 := h7 o (by
        have e : os.getD n 0 = os[n] := by simp [List.getD, hlt]
        rw [← ho, e]
        exact List.getElem_mem hlt)
      have c3 := hq.cell ho7
      have c4 := hp.cell ho7
      have f4 := hp.frozen o
      have HQ := Lib.hid hq
      have HP := Lib.hid hp
      have HR1 := Lib.hid hr1
      have HR2 := Lib.hid hr2'
      clear hq hp hr1 hr2'
      have HT : os.take (n + 1) = os.take n ++ [o] := by
        have e : os.getD n 0 = os[n] := by simp [List.getD, hlt]
        rw [List.take_add_one, List.getElem?_eq_getElem hlt, ← ho, e]
        rfl
      by_cases hr : 0 ≤ Q o ∧ Q o ≤ 4611686018427387904
      · go_wp2_with fail
        refine (is_rate _ _ hr.1 hr.2).mono ?_
        rintro e w' ⟨rfl, rfl⟩
        go_wp2
        go_roundw
        case rel =>
          refine ⟨n + 1, by omega, by simp, HQ.out.setOther (by show w.heap.size ≠ w.heap.size + 1; omega) _, ?_, HR1.out.setOther (by show w.heap.size + 1 + 1 ≠ w.heap.size + 1; omega) _, HR2.out.setOther (by show w.heap.size + 1 + 1 + 1 ≠ w.heap.size + 1; omega) _, hb.setCell (Nat.le_succ _) _, ?_⟩
          · refine (HP.out.set o _).congr fun j _ => ?_
            simp only [pcells, HT, List.mem_append, List.mem_singleton]
            by_cases e : j = o
            · subst e
              simp
            · simp [e]
          · rw [HT, List.all_append, hall]
            simp [hr]
        case measure => simp [intOf]; omega
      · have hall2 : mayK k os Q = false := by
          have : os.all (fun o => decide (0 ≤ Q o) && decide (Q o ≤ 4611686018427387904)) = false := by
            rw [List.all_eq_false]
            refine ⟨o, ?_, ?_⟩
            · have e : os.getD n 0 = os[n] := by simp [List.getD, hlt]
              rw [← ho, e]
              exact List.getElem_mem hlt
            · intro h
              rw [Bool.and_eq_true] at h
              exact hr ⟨of_decide_eq_true h.1, of_decide_eq_true h.2⟩
          rw [mayK, this, Bool.false_and]
        have HF := Lib.hid hall2
        clear hall2
        go_wp2_with fail
        refine (no_rate _ _ (by omega)).mono ?_
        rintro e w' ⟨rfl, rfl⟩
        go_wp2
        go_ret
        rw [HF.out]
        exact ⟨rfl, hb⟩
    · obtain rfl : n = os.length := by omega
      have C0 := hp.cell (i := 0) (by decide)
      have C1 := hp.cell (i := 1) (by decide)
      have C2 := hp.cell (i := 2) (by decide)
      have C3 := hp.cell (i := 3) (by decide)
      have C4 := hp.cell (i := 4) (by decide)
      have C5 := hp.cell (i := 5) (by decide)
      have C6 := hp.cell (i := 6) (by decide)
      have D0 := hq.cell (i := 0) (by decide)
      have D1 := hq.cell (i := 1) (by decide)
      have D2 := hq.cell (i := 2) (by decide)
      have D3 := hq.cell (i := 3) (by decide)
      have D4 := hq.cell (i := 4) (by decide)
      have D5 := hq.cell (i := 5) (by decide)
      have D6 := hq.cell (i := 6) (by decide)
      rw [List.take_length] at hall
      have hm : onlyK k os Q = mayK k os Q := by rw [mayK, hall, Bool.true_and]
      have HM := Lib.hid hm
      clear hq hp hr1 hr2' hall hm
      go_wp2
      go_ret
      refine ⟨?_, hb⟩
      rw [← HM.out]
      rfl
end Go.Proofs.Ytikblicmnfnomaa.Man
