/- span.Cut: what it answers, in plain words, and that the call answers so. -/
import Derived.Test.YtbacdpagpdmkoaaSpanC
import Derived.Test.YtbacdpagpdmkoaaSpanM
import Derived.Test.YtbacdpagpdmkoaaWRepsOne
set_option linter.unusedVariables false
namespace Go.Proofs.Ytbacdpagpdmkoaa.Man
open Go.RowKit Go.Proofs.Ytbacdpagpdmkoaa.QT Go.Proofs.YtbacdpagpdmkoaaW.PrintWords Go.Proofs.YtbacdpagpdmkoaaW.PrintLast Go.Proofs.YtbacdpagpdmkoaaW.PrintMore

/-- The points within. -/
def within (a b : Int) (ps : List Int) : List Int := ps.filter fun p => decide (a < p) && decide (p < b)
def partsF (a : Int) : List Int → List S23
  | [] => []
  | t :: r => ⟨a, t⟩ :: partsF t r
def cutF (a b : Int) (ps : List Int) : List S23 × Int := if mayF a b = true then (partsF a (uniqF (sortF (b :: within a b ps))), 0) else ([], 200)
def span_Cut.f (a0_0 a0_1 : Int) (l1 : List Int) : Option (List S23 × Int) := if l1.length ≤ 17592186043904 then some (cutF a0_0 a0_1 l1) else none

theorem within_snoc (a b : Int) (ps : List Int) (k : Nat) (h : k < ps.length) : within a b (ps.take (k + 1)) = within a b (ps.take k) ++ if a < ps[k] ∧ ps[k] < b then [ps[k]] else [] := by
  unfold within
  rw [List.take_succ_eq_append_getElem h, List.filter_append, List.filter_cons, List.filter_nil]
  by_cases h1 : a < ps[k] ∧ ps[k] < b
  · rw [if_pos h1, if_pos (by simpa using h1)]
  · rw [if_neg h1, if_neg (by simpa using h1)]
theorem within_le (a b : Int) (ps : List Int) : (within a b ps).length ≤ ps.length := List.length_filter_le _ _
def lastF (a : Int) (ts : List Int) : Int := ts.getLastD a
theorem partsF_snoc (t : Int) : ∀ (ts : List Int) (a : Int), partsF a (ts ++ [t]) = partsF a ts ++ [⟨lastF a ts, t⟩]
  | [], a => rfl
  | x :: r, a => by
    show _ :: partsF x (r ++ [t]) = _
    rw [partsF_snoc t r x]
    simp only [partsF, lastF, List.getLastD_cons, List.cons_append]
theorem partsF_length : ∀ (ts : List Int) (a : Int), (partsF a ts).length = ts.length
  | [], _ => rfl
  | x :: r, a => by simp [partsF, partsF_length r x]
theorem lastF_snoc (a t : Int) (ts : List Int) : lastF a (ts ++ [t]) = t := by simp [lastF]
theorem take_snoc_at (zs : List Int) (k : Nat) (h : k < zs.length) : zs.take (k + 1) = zs.take k ++ [zs[k]] := List.take_succ_eq_append_getElem h
theorem rd_at (zs : List Int) (k : Nat) (h : k < zs.length) : rd zs (k : Int) = zs[k] := by simp [rd, List.getD_eq_getElem?_getD, h]

theorem parts_few (a b : Int) (ps : List Int) (hm : mayF a b = true) : (uniqF (sortF (b :: within a b ps))).length ≤ 4096 := by
  have h := mayF_true.1 hm
  have := strict_len (uniqF (sortF (b :: within a b ps))) a b (uniqF_strict _ (sortF_rising _)) (fun z hz => by
    rw [uniqF_mem, sortF_mem] at hz
    rcases List.mem_cons.1 hz with rfl | hz
    · omega
    · have := (List.mem_filter.1 hz).2
      simp at this
      omega)
  omega

def Cut1 (w : World) (g : Nat) (a b : Int) (ps : List Int) (v i : Value) (w' : World) : Prop := ∃ (k : Nat), i = .int .i64 (k : Int) ∧ k ≤ ps.length ∧ Kd.R (Kd.int .i64) 3 w' w.heap.size (fun _ => True) v (b :: within a b (ps.take k)) ∧ Below w.heap.size w w' ∧ w.heap.size ≤ g ∧ w'.heap[g]? = some (.cells #[.int .i64 a, .int .i64 b] 23 (0, 0))
def Cut2 (w : World) (a : Int) (zs : List Int) (vc : Value) (v f i : Value) (w' : World) : Prop := ∃ (k : Nat), i = .int .i64 (k : Int) ∧ k ≤ zs.length ∧ f = .int .i64 (lastF a (zs.take k)) ∧ Kd.R k23 23 w' w.heap.size (fun _ => True) v (partsF a (zs.take k)) ∧ w'.ownsRow w.heap.size 3 1 vc zs.length (nums .i64 zs) ∧ Below w.heap.size w w'

set_option maxHeartbeats 8000000 in
set_option maxRecDepth 100000 in
theorem cut_is (a b : Int) (A : Option Addr) (c : Nat) (ps : List Int) (w : World) (hr : Kd.C (Kd.int .i64) w A ps.length ps) (hc : ps.length ≤ c) (hl : ps.length ≤ 17592186043904) :
    Calls Try.prog 27 #[.agg #[.int .i64 a, .int .i64 b], .slice A ps.length c] w fun e w' => ∃ v0_ : Value, e = .returned (.tuple #[v0_, .int .i64 (cutF a b ps).2]) ∧ Kd.R k23 23 w' w.heap.size (fun _ => True) v0_ (cutF a b ps).1 ∧ Below w.heap.size w w' := by
  have HR := Lib.hid hr
  clear hr
  cases hm : mayF a b
  · have HM := Lib.hid hm
    have HF : Hid (cutF a b ps = ([], 200)) := Lib.hid (by unfold cutF; rw [if_neg (by rw [hm]; decide)])
    rw [HF.out]
    clear hm
    go_enter Try.func27, Try.ntmps27
    go_wp2_with fail
    refine (may_is a b _).mono ?_
    rintro e w1 ⟨rfl, hb⟩
    rw [HM.out]
    have HB := Lib.hid (below_then ((Below.refl w.heap.size w).alloc (Nat.le_refl _) _) (by simp) hb)
    clear hb
    go_wp2
    go_ret2
    exact ⟨_, rfl, Kd.R_nil _ _ _ _ _, HB.out⟩
  have HM := Lib.hid hm
  have HF : Hid (cutF a b ps = (partsF a (uniqF (sortF (b :: within a b ps))), 0)) := Lib.hid (by unfold cutF; rw [if_pos hm])
  rw [HF.out]
  clear hm
  go_enter Try.func27, Try.ntmps27
  go_wp2_with fail
  refine (may_is a b _).mono ?_
  rintro e w1 ⟨rfl, hb⟩
  rw [HM.out]
  have HB := Lib.hid (below_then ((Below.refl w.heap.size w).alloc (Nat.le_refl _) _) (by simp) hb)
  have hblk := blk_below (blk_new w (.cells #[.int .i64 a, .int .i64 b] 23 (0, 0))) hb
  have c1 := blk_cell hblk 1
  have HBLK := Lib.hid hblk
  clear hb hblk
  go_wp2_with (first | ((with_reducible refine gate_dst (N := 18) rfl ?_); refine Kd.R_lit (Kd.int .i64) (w0 := w) w.heap.size 3 ?hg (N := 18) ?hd (xs := [b]) (inner := [.int .i64 b]) (ok := fun _ => True) (okp := fun _ => True) ?hr ?hp (fun _ hk => hk) trivial HB.out HB.out.size (by simp) ?_; (case hd => rfl); (case hg => rfl); (case hr => first | (go_simp; done) | (go_simp; rfl)); (case hp => exact Reps.one (show Kd.M (Kd.int .i64) _ _ _ b [.int .i64 b] from rfl) (Reps.none _ _)); intro v2 w2 ho2 hb2 hg2 _; have HO2 := Lib.hid ho2; have HB2 := Lib.hid hb2; have HK2 := Lib.hid (blk_grown HBLK.out hg2 (by simp)); clear ho2 hb2 hg2))
  obtain ⟨g, hg⟩ : ∃ g, w.heap.size = g := ⟨_, rfl⟩
  have HG := Lib.hid hg
  rw [hg] at HK2 ⊢
  clear hg
  go_loopw [6, 21] (Cut1 w g a b ps) (fun _ i _ => ps.length - (intOf i).toNat)
  case atStart => exact ⟨0, rfl, Nat.zero_le _, HO2.out, HB2.out, by rw [HG.out]; exact Nat.le_refl _, HK2.out⟩
  case round =>
    obtain ⟨k, rfl, hk, ho, hb, hwg, hbk⟩ := hrel
    obtain ⟨Av, cv, rfl⟩ := Kd.R_slice ho
    have c0 := blk_cell hbk 0
    have c1 := blk_cell hbk 1
    have HO := Lib.hid ho
    have HB3 := Lib.hid hb
    have HK := Lib.hid hbk
    have HNE := Lib.hid (Kd.R_ne ho hbk (by decide))
    clear ho hb hbk
    by_cases hlt : k < ps.length
    · obtain ⟨ad, rfl, x0⟩ := Kd.at_int (Kd.C_below HR.out HB3.out) (k : Int) (by omega) (by omega)
      have HSN := Lib.hid (within_snoc a b ps k hlt)
      have HLE : Hid ((b :: within a b (ps.take k)).length ≤ 17592186043904) := Lib.hid (by have := within_le a b (ps.take k); have h2 : (ps.take k).length ≤ k := List.length_take_le _ _; simp; omega)
      rw [rd_at ps k hlt, Int.toNat_natCast] at x0
      generalize ps[k] = p at *
      have hd : decide ((k : Int) < (ps.length : Int)) = true := by simpa using hlt
      by_cases h1 : a < p
      case neg =>
        have hd1 : decide (a < p) = false := by simpa using h1
        have HS2 : Hid (within a b (ps.take (k + 1)) = within a b (ps.take k)) := Lib.hid (by rw [HSN.out, if_neg (fun h => h1 h.1), List.append_nil])
        go_wp2
        go_roundw
        case rel => exact ⟨k + 1, by go_num, by omega, by rw [HS2.out]; exact HO.out, HB3.out, hwg, HK.out⟩
        case measure => simp [intOf]; omega
      have hd1 : decide (a < p) = true := by simpa using h1
      by_cases h2 : p < b
      case neg =>
        have hd2 : decide (p < b) = false := by simpa using h2
        have HS2 : Hid (within a b (ps.take (k + 1)) = within a b (ps.take k)) := Lib.hid (by rw [HSN.out, if_neg (fun h => h2 h.2), List.append_nil])
        go_wp2
        go_roundw
        case rel => exact ⟨k + 1, by go_num, by omega, by rw [HS2.out]; exact HO.out, HB3.out, hwg, HK.out⟩
        case measure => simp [intOf]; omega
      have hd2 : decide (p < b) = true := by simpa using h2
      have HS2 : Hid (within a b (ps.take (k + 1)) = within a b (ps.take k) ++ [p]) := Lib.hid (by rw [HSN.out, if_pos ⟨h1, h2⟩])
      generalize hxs : b :: within a b (ps.take k) = xs at *
      have HXS := Lib.hid hxs
      clear hxs
      go_wp2_with (first | ((with_reducible refine gate_builtin (b := .append) (xs := #[.tmp 35, .tmp 37]) rfl ?_); at_builtin; refine Kd.R_append (Kd.int .i64) (w0 := w) w.heap.size rfl (.tmp 35) (.tmp 37) 41 3 (.int .i64 0) 8 rfl Try.underlying41 info3 rfl (by decide) (by omega) (.slice Av xs.length cv) xs p [.int .i64 p] (fun _ => True) (fun _ => False) rfl rfl ?aP (fun _ hk => hk.elim) ?aF ?aO ?aB ?aS ?aL ?_; (case aP => exact rfl); (case aF => exact (fun _ _ => trivial)); (case aO => exact HO.out); (case aB => exact HB3.out); (case aS => exact HB3.out.size); (case aL => have := HLE.out; omega); intro v4 w4 ho4 hb4 hg4 _; have HO4 := Lib.hid ho4; have HB4 := Lib.hid hb4; have HK4 := Lib.hid (blk_grown HK.out hg4 HNE.out); clear ho4 hb4 hg4))
      go_roundw
      case rel => exact ⟨k + 1, by go_num, by omega, by rw [HS2.out, ← List.cons_append, HXS.out]; exact HO4.out, HB4.out, hwg, HK4.out⟩
      case measure => simp [intOf]; omega
    · have hd : decide ((k : Int) < (ps.length : Int)) = false := by simpa using hlt
      have HFULL : Hid (ps.take k = ps) := Lib.hid (List.take_of_length_le (by omega))
      rw [HFULL.out] at HO HNE
      rw [HFULL.out]
      have HLE : Hid ((b :: within a b ps).length ≤ 17592186043905) := Lib.hid (by have := within_le a b ps; simp; omega)
      generalize hxx : b :: within a b ps = xs at *
      have HXX := Lib.hid hxx
      clear hxx
      go_wp2_with fail
      refine (sort_row 3 w.heap.size (fun _ => True) (.slice Av xs.length cv) xs wr HO.out (by have := HLE.out; omega)).mono ?_
      rintro e w5 ⟨rfl, ho5, hg5⟩
      have HB5 := Lib.hid (HB3.out.grown hg5 HB3.out.size (fun k hk => own_base (int_row HO.out).2 k hk))
      have hk5 := blk_grown HK.out hg5 HNE.out
      have c0' := blk_cell hk5 0
      have HO5 := Lib.hid ho5
      have HLS : Hid ((sortF xs).length ≤ 17592186043905) := Lib.hid (by rw [sortF_length]; exact HLE.out)
      clear ho5 hg5 hk5
      generalize hyy : sortF xs = ys at *
      have HYY := Lib.hid hyy
      clear hyy
      go_wp2_with fail
      refine (compact_row 3 w.heap.size (fun _ => True) (.slice Av xs.length cv) ys w5 HO5.out (by have := HLS.out; omega)).mono ?_
      rintro e w6 ⟨vc, rfl, ho6, hg6, _⟩
      have HB6 := Lib.hid (HB5.out.grown hg6 HB5.out.size (fun k hk => own_base (int_row HO5.out).2 k hk))
      have HLU : Hid ((uniqF ys).length ≤ 4096) := Lib.hid (by
        rw [← HYY.out, ← HXX.out]
        exact parts_few a b ps HM.out)
      generalize hzz : uniqF ys = zs at *
      have HZZ := Lib.hid hzz
      clear hzz
      obtain ⟨Ac, cc, rfl⟩ := Kd.R_slice ho6
      have HO6 := Lib.hid (int_row ho6).2
      clear ho6 hg6 c0 c1 c0' hwg hd hlt hk
      go_wp2_with fail
      go_loopw [9, 10, 47] (Cut2 w a zs (.slice Ac zs.length cc)) (fun _ _ i _ => zs.length - (intOf i).toNat)
      case atStart => exact ⟨0, rfl, Nat.zero_le _, rfl, Kd.R_nil _ _ _ _ _, HO6.out, HB6.out⟩
      case round =>
        obtain ⟨j, rfl, hj, rfl, hov, how, hb⟩ := hrel
        obtain ⟨Ao, co, rfl⟩ := Kd.R_slice hov
        have HV := Lib.hid hov
        have HW := Lib.hid how
        have HBB := Lib.hid hb
        by_cases hlt : j < zs.length
        · obtain ⟨A9, c9, e9, hrd⟩ := own_reads how
          injection e9 with e9 _ e10
          subst e9 e10
          obtain ⟨ad, rfl, x0⟩ := hrd.at_ (j : Int) (by omega) (by omega)
          have HSN := Lib.hid (take_snoc_at zs j hlt)
          have hlu := HLU.out
          rw [rd_at zs j hlt, Int.toNat_natCast] at x0
          have HPL : Hid (((partsF a (zs.take j)).length + 1) * 16 ≤ 140737488355328) := Lib.hid (by have := HLU.out; rw [partsF_length, List.length_take]; omega)
          generalize zs[j] = t at *
          clear hov how hb hrd
          have hd : decide ((j : Int) < (zs.length : Int)) = true := by simpa using hlt
          generalize hq : partsF a (zs.take j) = q at *
          generalize hf : lastF a (zs.take j) = f at *
          have HQ := Lib.hid hq
          have HFF := Lib.hid hf
          clear hq hf
          go_wp2_with (first | ((with_reducible refine gate_builtin (b := .append) (xs := #[.tmp 51, .tmp 55]) rfl ?_); at_builtin; refine Kd.R_append k23 (w0 := w) w.heap.size rfl (.tmp 51) (.tmp 55) 31 23 (.agg #[.int .i64 0, .int .i64 0]) 16 rfl Try.underlying31 info23 rfl (by decide) (by omega) (.slice Ao q.length co) q ⟨f, t⟩ [.int .i64 f, .int .i64 t] (fun _ => True) (fun _ => False) rfl rfl ?aP (fun _ hk => hk.elim) ?aF ?aO ?aB ?aS ?aL ?_; (case aP => exact k23_mkM _ _ _ ⟨f, t⟩); (case aF => exact (fun _ _ => trivial)); (case aO => exact HV.out); (case aB => exact HBB.out); (case aS => exact HBB.out.size); (case aL => exact HPL.out); intro v8 w8 ho8 hb8 hg8 _; have HO8 := Lib.hid ho8; have HB8 := Lib.hid hb8; have HG8 := Lib.hid hg8; clear ho8 hb8 hg8))
          go_roundw
          case rel =>
            refine ⟨j + 1, by go_num, by omega, by rw [HSN.out, lastF_snoc], ?_, ?_, HB8.out⟩
            · rw [HSN.out, partsF_snoc, HQ.out, HFF.out]
              exact HO8.out
            · refine own_other HW.out HG8.out ?_
              obtain ⟨inner, hin⟩ := Kd.R_own HV.out
              exact own_type_ne HW.out hin (by decide)
          case measure => simp [intOf]; omega
        · have hd : decide ((j : Int) < (zs.length : Int)) = false := by simpa using hlt
          have HFULL2 : Hid (zs.take j = zs) := Lib.hid (List.take_of_length_le (by omega))
          rw [HFULL2.out] at HV
          clear hov how hb
          go_wp2
          go_ret2
          rw [HFULL2.out]
          exact ⟨_, rfl, by rw [HXX.out, HYY.out, HZZ.out]; exact HV.out, HBB.out⟩
theorem span_Cut.calls (a0_0 : Int) (a0_1 : Int) (A1 : Option Addr) (c1 : Nat) (l1 : List Int) (r1 : List S23) (r2 : Int) (w : World) (hr1 : Kd.C (Kd.int .i64) w A1 l1.length l1) (hc1 : l1.length ≤ c1) (h : span_Cut.f a0_0 a0_1 l1 = some (r1, r2)) :
    Calls Try.prog 27 #[.agg #[.int .i64 a0_0, .int .i64 a0_1], .slice A1 l1.length c1] w fun e w' => ∃ v0_ : Value, e = .returned (.tuple #[v0_, .int .i64 r2]) ∧ Kd.R k23 23 w' w.heap.size (fun _ => True) v0_ r1 ∧ Below w.heap.size w w' := by
  unfold span_Cut.f at h
  by_cases hl : l1.length ≤ 17592186043904
  · rw [if_pos hl] at h
    have := cut_is a0_0 a0_1 A1 c1 l1 w hr1 hc1 hl
    rw [Option.some.inj h] at this
    exact this
  · rw [if_neg hl] at h
    cases h
end Go.Proofs.Ytbacdpagpdmkoaa.Man
