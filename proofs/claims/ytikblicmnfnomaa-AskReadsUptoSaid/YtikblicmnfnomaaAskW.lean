/- ask.Write at this dump. -/
import Derived.Test.YtikblicmnfnomaaAskN
import Derived.Test.YtikblicmnfnomaaWordP
import Derived.Test.YtikblicmnfnomaaWRepsOne
set_option linter.unusedVariables false
namespace Go.Proofs.Ytikblicmnfnomaa.Man
open Go.RowKit Go.Proofs.YtikblicmnfnomaaW.PrintWords Go.Proofs.YtikblicmnfnomaaW.PrintLast Go.Proofs.YtikblicmnfnomaaW.PrintMore

theorem infoI : (Try.prog.info? 3).map (fun i => (i.zero, i.size, i.bytes)) = some (some (.int .i64 0), 1, 8) := by kernel_rfl
theorem row_grown {b n : Nat} {t : TypeId} {f : Nat → Value} {w w' : World} {row : Option Nat} (h : w.rowIs b t n f) (hg : w.grownBy w' row) (hne : some b ≠ row) : w'.rowIs b t n f := h.of_block (hg.block b h.lt hne)
/-- The numbers of a request. -/
def numsQ (k : Int) (Q : Nat → Int) : List Int := k :: (offsK k).map Q
def ask_Write.f (a b k i s d r : Int) : Option (ByteArray × Int) :=
  if mayQ a b k i s d r = true then (word_Put.f (numsQ k (qcells a b k i s d r))).bind fun p => if p.2 = 0 then some (p.1, 0) else some (⟨#[]⟩, 2200) else some (⟨#[]⟩, 2200)

set_option maxHeartbeats 4000000 in
set_option maxRecDepth 100000 in
theorem ask_Write.calls (a b k i s d r : Int) (r1 : ByteArray) (r2 : Int) (w : World) (h : ask_Write.f a b k i s d r = some (r1, r2)) :
    Calls Try.prog 26 #[.agg #[.int .i64 a, .int .i64 b, .int .i64 k, .int .i64 i, .int .i64 s, .int .i64 d, .int .i64 r]] w fun e w' => e = .returned (.tuple #[.string r1, .int .i64 r2]) ∧ Below w.heap.size w w' := by
  have HF := Lib.hid h
  clear h
  go_enter Try.func26, Try.ntmps26
  go_wp2_with fail
  refine (ask_May.calls a b k i s d r (mayQ a b k i s d r) _ rfl).mono ?_
  rintro e w1 ⟨rfl, hb⟩
  have hE : Below w.heap.size w w1 := ((Below.refl w.heap.size w).alloc (Nat.le_refl _) _).trans (hb.mono (by simp))
  cases hm : mayQ a b k i s d r
  · go_wp2
    have HF' := HF.out
    rw [ask_Write.f, hm, if_neg (by decide)] at HF'
    cases HF'
    go_ret2
    exact ⟨rfl, hE⟩
  · obtain ⟨os, hos⟩ : ∃ os, offsK k = os := ⟨_, rfl⟩
    have hne : offsK k ≠ [] := by
      intro e
      rw [mayQ, if_pos e] at hm
      cases hm
    have h7 : ∀ o ∈ offsK k, o < 7 := by
      unfold offsK
      repeat' split
      all_goals decide
    have hl : (offsK k).length ≤ 5 := by
      unfold offsK
      repeat' split
      all_goals decide
    rw [hos] at h7 hl
    have HL : 0 < os.length := by
      rw [← hos]
      exact List.length_pos_iff.2 hne
    obtain ⟨Q, hQ⟩ : ∃ Q, qcells a b k i s d r = Q := ⟨_, rfl⟩
    have hs1 : w.heap.size < w1.heap.size := by
      have := hb.size
      simp only [show ∀ (u : World) (o : Obj), (u.alloc o).heap.size = u.heap.size + 1 from fun u o => by simp] at this
      omega
    have hq1 : w1.rowIs w.heap.size 46 7 (fun j => .int .i64 (Q j)) := by
      refine row_below ?_ hb (by simp)
      refine World.rowIs_alloc w _ _ _ (fun j hj => ?_)
      subst hQ
      match j with
      | 0 | 1 | 2 | 3 | 4 | 5 | 6 => rfl
      | n + 7 => exact absurd (show n + 7 < 7 from hj) (by omega)
    have hk1 := hq1.cell (i := 2) (by decide)
    have hQ2 : Q 2 = k := by subst hQ; rfl
    rw [hQ2] at hk1
    have HFv : Hid ((word_Put.f (k :: os.map Q)).bind (fun p => if p.2 = 0 then some (p.1, 0) else some (⟨#[]⟩, 2200)) = some (r1, r2)) := by
      have := HF.out
      rw [ask_Write.f, if_pos hm, hQ, numsQ, hos] at this
      exact Lib.hid this
    clear HF hb hm
    have hO : Kd.R (Kd.int .i64) 3 (w1.alloc (.cells #[.int .i64 k] 3)) w.heap.size (fun g => g ≠ w.heap.size ∧ g ≠ w1.heap.size + 1) (.slice (some ⟨w1.heap.size, 0, none⟩) 1 1) [k] := by
      refine ⟨fun g hg => ?_, [.int .i64 k], ?_, Reps.one (show Kd.M (Kd.int .i64) _ _ _ k [.int .i64 k] from rfl) (Reps.none _ _)⟩
      · have : w1.heap.size = g := by simpa [Value.ownBlock] using hg
        omega
      · exact World.ownsRow_lit (base := w.heap.size) (e := 3) (size := 1) w1 #[.int .i64 k] 1 (Nat.le_of_lt hs1) (by decide) (by simp)
    have hsz : (w1.alloc (.cells #[.int .i64 k] 3)).heap.size = w1.heap.size + 1 := by simp
    have hE1 := hE.alloc (Nat.le_of_lt hs1) (.cells #[.int .i64 k] 3)
    have hq2 := hq1.alloc (.cells #[.int .i64 k] 3)
    have hk2 := hq2.cell (i := 2) (by decide)
    rw [hQ2] at hk2
    have HO := Lib.hid hO
    have HQ2 := Lib.hid hq2
    have HE1 := Lib.hid hE1
    clear hO hq1 hq2 hE1
    go_wp2_with fail
    refine (fields_row _ k _ hk2 hne).mono ?_
    rintro e w2 ⟨rfl, hb2, hs2, hr2⟩
    have hO2 := Kd.R_below HO.out hb2
    rw [hos, hsz] at *
    have hq := row_below HQ2.out hb2 (by omega)
    have hEE := HE1.out.trans (hb2.mono (by omega))
    clear HO HQ2 HE1 hb2 hk2 hk1
    go_wp2
    go_loopw [4, 17] (fun v x wr => ∃ n : Nat, n ≤ os.length ∧ x = .int .i64 n ∧ Kd.R (Kd.int .i64) 3 wr w.heap.size (fun g => g ≠ w.heap.size ∧ g ≠ w1.heap.size + 1) v (k :: (os.take n).map Q) ∧ wr.rowIs w.heap.size 46 7 (fun j => .int .i64 (Q j)) ∧ wr.rowIs (w1.heap.size + 1) 70 os.length (ptrAt w.heap.size os) ∧ Below w.heap.size w wr) (fun v x _ => os.length - (intOf x).toNat)
    case atStart => exact ⟨0, Nat.zero_le _, rfl, hO2, hq, hr2, hEE⟩
    case round =>
      obtain ⟨n, hn, rfl, hR, hq, hr, hb⟩ := hrel
      clear hO2 hr2 hEE
      by_cases hlt : n < os.length
      · have c2 := hr.cell hlt
        obtain ⟨o, ho⟩ : ∃ o, os.getD n 0 = o := ⟨_, rfl⟩
        have eo : os.getD n 0 = os[n] := by simp [List.getD, hlt]
        simp only [ptrAt, ho] at c2
        have ho7 : o < 7 := h7 o (by
          rw [← ho, eo]
          exact List.getElem_mem hlt)
        have c3 := hq.cell ho7
        have HT : Hid (os.take (n + 1) = os.take n ++ [o]) := by
          refine Lib.hid ?_
          rw [List.take_add_one, List.getElem?_eq_getElem hlt, ← ho, eo]
          rfl
        have HQ := Lib.hid hq
        have HR := Lib.hid hR
        have HR1 := Lib.hid hr
        clear hq hR hr
        have hbs : w.heap.size ≤ wr.heap.size := hb.size
        have hfresh : Hid (∀ g, wr.heap.size ≤ g → g ≠ w.heap.size ∧ g ≠ w1.heap.size + 1) := by
          have := HR1.out.lt
          exact Lib.hid (fun g hg => ⟨by omega, by omega⟩)
        have hlen : Hid (((k :: (os.take n).map Q).length + 1) * 8 ≤ 140737488355328) := by
          refine Lib.hid ?_
          simp only [List.length_cons, List.length_map, List.length_take]
          omega
        go_wp2_with (first | ((with_reducible refine gate_builtin (b := .append) (xs := #[.tmp 21, .tmp 25]) rfl ?_); at_builtin; refine Kd.R_append (Kd.int .i64) (w0 := w) w.heap.size rfl (.tmp 21) (.tmp 25) 22 3 (.int .i64 0) 8 rfl Try.underlying22 infoI rfl (by decide) (by omega) _ (k :: (os.take n).map Q) (Q o) [.int .i64 (Q o)] (fun g => g ≠ w.heap.size ∧ g ≠ w1.heap.size + 1) (fun _ => False) rfl rfl ?aP (fun _ hk => hk.elim) ?aF ?aO ?aB ?aS ?aL ?_; (case aP => exact rfl); (case aF => exact hfresh.out); (case aO => exact HR.out); (case aB => exact hb); (case aS => exact hbs); (case aL => exact hlen.out); intro v3 w3 ho3 hb3 hg3 hat3; have HO3 := Lib.hid ho3; have HB3 := Lib.hid hb3; have HG3 := Lib.hid hg3; clear ho3 hb3 hg3 hat3))
        go_wp2
        go_roundw
        case rel =>
          have hO3 := HO3.out
          have e3 : (k :: List.map Q (List.take n os)) ++ [Q o] = k :: List.map Q (List.take (n + 1) os) := by
            rw [HT.out, List.map_append]
            rfl
          rw [e3] at hO3
          exact ⟨n + 1, by omega, by simp, hO3, row_grown HQ.out HG3.out (fun e => (HR.out.1 _ e.symm).1 rfl), row_grown HR1.out HG3.out (fun e => (HR.out.1 _ e.symm).2 rfl), HB3.out⟩
        case measure => simp [intOf]; omega
      · obtain rfl : n = os.length := by omega
        rw [List.take_length] at hR
        have hFv := HFv.out
        obtain ⟨l, hll⟩ : ∃ l, k :: os.map Q = l := ⟨_, rfl⟩
        rw [hll] at hR hFv
        clear HFv hll
        obtain ⟨A, c, rfl, hc, hC⟩ := Kd.R_reads hR
        have HC := Lib.hid hC
        clear hq hr hR hC
        cases hw : word_Put.f l with
        | none =>
          rw [hw] at hFv
          cases hFv
        | some p =>
          obtain ⟨p1, p2⟩ := p
          have HW := Lib.hid hw
          have HFw : (if p2 = 0 then some (p1, (0 : Int)) else some (⟨#[]⟩, 2200)) = some (r1, r2) := by
            rw [hw, Option.bind_some] at hFv
            exact hFv
          clear hw hFv
          go_wp2_with fail
          refine (word_Put.calls A c l p1 p2 _ HC.out hc HW.out).mono ?_
          rintro e w3 ⟨rfl, hb3⟩
          have hb4 := hb.trans (hb3.mono hb.size)
          clear hb hb3
          by_cases hp : p2 = 0
          · rw [if_pos hp] at HFw
            cases HFw
            subst hp
            go_wp2
            go_ret2
            exact ⟨rfl, hb4⟩
          · rw [if_neg hp] at HFw
            cases HFw
            have hpb : (p2 != 0) = true := bne_iff_ne.mpr hp
            have hpc : (p2 == 0) = false := beq_eq_false_iff_ne.mpr hp
            clear hp
            go_wp2
            go_ret2
            exact ⟨rfl, hb4⟩
end Go.Proofs.Ytikblicmnfnomaa.Man
