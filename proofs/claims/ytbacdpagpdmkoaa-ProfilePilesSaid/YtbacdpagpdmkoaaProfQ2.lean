/- ProfQ2: texts of this seat laid together by merge.py: ProfC, ProfD, ProfE, ProfF, ProfG, ProfH, ProfI, ProfK. -/
import Derived.Test.YtbacdpagpdmkoaaProfQ1
import Derived.Lib.SliceRun
import Derived.StillTailTactics
import Derived.Lib.AppendZeros
import Derived.Deep.AppendSrc
import Derived.Laws.IdiomCopy
import Derived.Lib.Overlaps
import Derived.Laws.Externs
import Derived.Shelf.Spec.SlicesInsert
import Derived.BigQuiet
import Derived.Deep.RegionHeld3
set_option linter.unusedVariables false
set_option linter.unusedSimpArgs false
/- Runs in a row of the call's own: a cut of it, its end cleared; equal loads behind one another left out. -/
namespace Go.Proofs.Ytbacdpagpdmkoaa.Man
open Go.RowKit Go.Proofs.Ytbacdpagpdmkoaa.QT Go.Proofs.YtbacdpagpdmkoaaW.PrintWords Go.Proofs.YtbacdpagpdmkoaaW.PrintLast Go.Proofs.YtbacdpagpdmkoaaW.PrintMore

/-- Of runs whose loads are equal behind one another, the first. -/
def tdF (p : Int) : List Rn → List Rn
  | [] => []
  | x :: r => if x.f1 = p then tdF p r else x :: tdF x.f1 r
def tidyF : List Rn → List Rn
  | [] => []
  | x :: r => x :: tdF x.f1 r
theorem tdF_snoc (y : Rn) : ∀ (xs : List Rn) (p : Rn), tdF p.f1 (xs ++ [y]) = tdF p.f1 xs ++ if y.f1 = (xs.getLastD p).f1 then [] else [y]
  | [], p => by
    show (if y.f1 = p.f1 then [] else [y]) = _
    simp [tdF]
  | x :: r, p => by
    simp only [List.cons_append, tdF]
    by_cases h : x.f1 = p.f1
    · rw [if_pos h, if_pos h, ← h, tdF_snoc y r x, List.getLastD_cons]
    · rw [if_neg h, if_neg h, tdF_snoc y r x, List.getLastD_cons, List.cons_append]
theorem tidyF_take (rs : List Rn) (k : Nat) (h0 : 0 < k) (h : k < rs.length) : tidyF (rs.take (k + 1)) = tidyF (rs.take k) ++ if rs[k].f1 = (rs[k - 1]'(by omega)).f1 then [] else [rs[k]] := by
  cases rs with
  | nil => simp at h
  | cons x r =>
    obtain ⟨k, rfl⟩ : ∃ j, k = j + 1 := ⟨k - 1, by omega⟩
    simp only [List.length_cons] at h
    have hk : k < r.length := by omega
    show x :: tdF x.f1 (r.take (k + 1)) = (x :: tdF x.f1 (r.take k)) ++ _
    rw [List.take_succ_eq_append_getElem hk, tdF_snoc]
    have : ((r.take k).getLastD x) = (x :: r)[k + 1 - 1]'(by simp; omega) := by
      cases k with
      | zero => simp
      | succ k =>
        rw [List.getLastD_eq_getLast?, List.getLast?_eq_getElem?, List.length_take, show min (k + 1) r.length - 1 = k by omega, List.getElem?_take]
        simp
        rw [List.getElem?_eq_getElem (by omega)]
        rfl
    rw [this]
    rfl
theorem tidyF_length (rs : List Rn) : (tidyF rs).length ≤ rs.length := by
  cases rs with
  | nil => exact Nat.le_refl _
  | cons x r =>
    have : ∀ (xs : List Rn) p, (tdF p xs).length ≤ xs.length := by
      intro xs
      induction xs with
      | nil => intro p; exact Nat.le_refl _
      | cons y s ih =>
        intro p
        simp only [tdF]
        split
        · have := ih p; simp; omega
        · have := ih y.f1; simp; omega
    have := this r x.f1
    simp only [tidyF, List.length_cons]
    omega

theorem reps_take {α : Type} {R : α → List Value → Prop} {size : Nat} {ps : List α} {cs cs' : List Value} (h : Reps R size ps cs) (m : Nat) (hm : m ≤ ps.length) (hc : cs'.take (m * size) = cs.take (m * size)) (hl : m * size ≤ cs'.length) : Reps R size (ps.take m) (cs'.take (m * size)) := by
  refine ⟨by rw [List.length_take, List.length_take, Nat.min_eq_left hm, Nat.min_eq_left hl], fun j p hj => ?_⟩
  rw [List.getElem?_take] at hj
  split at hj
  · rename_i hjm
    have h2 := h.2 j p hj
    have h1 : j * size + size ≤ m * size := by rw [← Nat.succ_mul]; exact Nat.mul_le_mul_right _ hjm
    have : (((cs'.take (m * size)).drop (j * size)).take size) = ((cs.drop (j * size)).take size) := by
      rw [hc, List.drop_take, List.take_take, Nat.min_eq_left (by omega)]
    rw [this]
    exact h2
  · cases hj
/-- The first m runs of a row of one's own. -/
theorem row_cut {e base g n cap : Nat} {ok : Nat → Prop} {W W' : World} {rs : List Rn} (h : Kd.R k82 e W base ok (.slice (some ⟨g, 0, none⟩) n cap) rs) (m : Nat) (hm : m ≤ n) {cur cur' : Array Value} (hh : W.heap[g]? = some (.cells cur e (0, 0))) (hh' : W'.heap[g]? = some (.cells cur' e (0, 0))) (hs : cur'.size = cur.size) (hc : cur'.toList.take (m * 2) = cur.toList.take (m * 2)) :
    Kd.R k82 e W' base ok (.slice (some ⟨g, 0, none⟩) m cap) (rs.take m) := by
  obtain ⟨h0, inner, ho, hr⟩ := h
  obtain ⟨ho1, ho2⟩ := ho
  have hrl : inner.length = rs.length * 2 := hr.1
  have hn : n = rs.length := by
    rcases ho2 with ⟨hv, _⟩ | ⟨g', cap', cur0, hv, hb, hh0, hnc, hcm, hcs, ht⟩
    · cases hv
    injection hv with _ e2 _
  subst hn
  rcases ho2 with ⟨hv, _⟩ | ⟨g', cap', cur0, hv, hb, hh0, hnc, hcm, hcs, ht⟩
  · cases hv
  injection hv with e1 _ e3
  injection e1 with e1
  injection e1 with e1
  subst e1 e3
  rw [hh] at hh0
  injection hh0 with hh0
  injection hh0 with hh0
  subst hh0
  have hk : k82.sz = 2 := rfl
  rw [hk] at hcs ht
  have hml : m * 2 ≤ rs.length * 2 := Nat.mul_le_mul_right _ hm
  have hcl : rs.length * 2 ≤ cap * 2 := Nat.mul_le_mul_right _ hnc
  have hlt : (rs.take m).length = m := by rw [List.length_take]; omega
  refine ⟨fun k hk => h0 k hk, cur'.toList.take (m * 2), ⟨?_, .inr ⟨g, cap, cur', by rw [hlt], hb, hh', by rw [hlt]; omega, hcm, by rw [hs, hcs, hk], by rw [hlt, hk]⟩⟩, ?_⟩
  · rw [List.length_take, hlt, hk, Array.length_toList]
    omega
  · have hr' : Reps (fun (x : Rn) cs => k82.M W base (fun k => ok k ∧ some k ≠ (Value.slice (some ⟨g, 0, none⟩) rs.length cap).ownBlock) x cs) 2 rs inner := hr
    have := reps_take hr' (cs' := cur'.toList) m hm (by rw [hc, ← ht, List.take_take, Nat.min_eq_left (by omega)]) (by rw [Array.length_toList]; omega)
    refine this.imp_ fun p c hp => ?_
    obtain rfl := k82_openM hp
    exact k82_mkM _ _ _ p
theorem row_clear {e base g n cap : Nat} {ok : Nat → Prop} {W : World} {rs : List Rn} (h : Kd.R k82 e W base ok (.slice (some ⟨g, 0, none⟩) n cap) rs) (m : Nat) (hm : m ≤ n) (vs : List Value) (hv : vs.length = (n - m) * 2) :
    Kd.R k82 e (W.setCells g (m * 2) vs) base ok (.slice (some ⟨g, 0, none⟩) m cap) (rs.take m) ∧ W.grownBy (W.setCells g (m * 2) vs) (some g) := by
  obtain ⟨inner, ho⟩ := Kd.R_own h
  have ho2 := ho.2
  rcases ho2 with ⟨hv', _⟩ | ⟨g', cap', cur, hv', hb, hh, hnc, hcm, hcs, ht⟩
  · cases hv'
  injection hv' with e1 e2 e3
  injection e1 with e1
  injection e1 with e1
  subst e1 e3
  have hk : k82.sz = 2 := rfl
  rw [hk] at hcs
  have hml : n * 2 ≤ cap * 2 := Nat.mul_le_mul_right _ (by omega)
  obtain ⟨cur', h3, h4, h5⟩ := setCells_row vs (m * 2) W cur hh (by rw [hv]; omega)
  obtain ⟨s1, s2, s3, s4⟩ := setCells_same g vs (m * 2) W
  refine ⟨row_cut h m hm hh h3 h4 ?_, ⟨s1, s2, s3, by rw [s4]; exact Nat.le_refl _, fun k _ hk => setCells_far vs _ k (fun he => hk (by rw [he]))⟩⟩
  have hlen : cur.toList.length = cap * 2 := by rw [Array.length_toList, hcs]
  rw [h5, List.append_assoc, List.take_append_of_le_length (by rw [List.length_take]; omega), List.take_take, Nat.min_self]
/-- clear of runs. -/
theorem run_clear_runs (g m n c cap e : Nat) {W : World} {cur : Array Value} (hh : W.heap[g]? = some (.cells cur e (0, 0))) (hs : m * 2 + n * 2 ≤ cur.size) (h0 : 0 < n) (ty : TypeId) :
    ∃ vs : List Value, vs.length = n * 2 ∧ (Builtin.clear_ #[50] ty #[.slice (some ⟨g, m * 2, none⟩) n c]).run Try.prog W = .ok (.tuple #[]) (W.setCells g (m * 2) vs) := by
  have hv : ∀ w : World, (zeroValue 82).run Try.prog w = .ok (.agg #[.int .i64 0, .int .i64 0]) w := fun w => by simp [go_sem]
  have hzl : (Builtin.zeroCells #[Value.int .i64 0, Value.int .i64 0] n).toList.length = n * 2 := by simp [Builtin.zeroCells]
  refine ⟨(Builtin.zeroCells #[Value.int .i64 0, Value.int .i64 0] n).toList, hzl, ?_⟩
  have hst := run_storeCells_cells (P := Try.prog) g (m * 2) (Builtin.zeroCells #[Value.int .i64 0, Value.int .i64 0] n).toList 0 W
    (fun j hj => by rw [cell_of_row W g _ cur e (0, 0) hh]; simp; rw [hzl] at hj; omega) (fun j _ => blk_frozen hh _)
    (by
      intro v hv'
      simp only [Builtin.zeroCells, Array.toList_map, List.mem_map] at hv'
      obtain ⟨i, _, rfl⟩ := hv'
      rcases Nat.mod_two_eq_zero_or_one i with h | h <;> simp [h] <;> rfl)
  simp only [Nat.add_zero] at hst
  obtain ⟨n, rfl⟩ : ∃ j, n = j + 1 := ⟨n - 1, by omega⟩
  have hcl : (Value.agg #[.int .i64 0, .int .i64 0]).cells = #[Value.int .i64 0, Value.int .i64 0] := by rfl
  simp [Builtin.clear_, run_underlying Try.underlying50, hv, hcl, hst]
end Go.Proofs.Ytbacdpagpdmkoaa.Man

/- slices.CompactFunc of runs with equal loads, at a row of the call's own. -/
namespace Go.Proofs.Ytbacdpagpdmkoaa.Man
open Go.RowKit Go.Proofs.Ytbacdpagpdmkoaa.QT Go.Proofs.YtbacdpagpdmkoaaW.PrintWords Go.Proofs.YtbacdpagpdmkoaaW.PrintLast Go.Proofs.YtbacdpagpdmkoaaW.PrintMore

def CompactAt (w : World) (g n cap base : Nat) (ok : Nat → Prop) (rs : List Rn) (i : Value) (w' : World) : Prop := ∃ k : Nat, i = .int .i64 (k : Int) ∧ 1 ≤ k ∧ k ≤ rs.length ∧ tidyF (rs.take k) = rs.take k ∧ Below base w w' ∧ Kd.R k82 82 w' base ok (.slice (some ⟨g, 0, none⟩) n cap) rs
/-- k: the place behind which one was equal; m: how many of s2 are done; j: where the next is laid. -/
def CompactIn (w : World) (g n cap base k : Nat) (ok : Nat → Prop) (rs : List Rn) (i i2 : Value) (w' : World) : Prop := ∃ (j m : Nat) (ys : List Rn), i = .int .i64 (j : Int) ∧ i2 = .int .i64 (m : Int) ∧ 1 ≤ m ∧ k + m ≤ rs.length ∧ j < k + m ∧ ys.length = rs.length ∧ ys.drop (k + m - 1) = rs.drop (k + m - 1) ∧ ys.take j = tidyF (rs.take (k + m)) ∧ Below base w w' ∧ Kd.R k82 82 w' base ok (.slice (some ⟨g, 0, none⟩) n cap) ys

set_option maxHeartbeats 4000000 in
set_option maxRecDepth 100000 in
theorem compact_is (g n cap base : Nat) (ok : Nat → Prop) (rs : List Rn) (w : World) (hr : Kd.R k82 82 w base ok (.slice (some ⟨g, 0, none⟩) n cap) rs) (hb : base ≤ w.heap.size) (hl : rs.length ≤ 281474976710656) :
    Calls Try.prog 80 #[.slice (some ⟨g, 0, none⟩) n cap, .func (.func 81) #[] #[]] w fun e w' => ∃ m : Nat, e = .returned (.slice (some ⟨g, 0, none⟩) m cap) ∧ Kd.R k82 82 w' base ok (.slice (some ⟨g, 0, none⟩) m cap) (tidyF rs) ∧ Below base w w' := by
  obtain ⟨A_, c_, e_, hcap, hC⟩ := Kd.R_reads hr
  injection e_ with e1 e2 e3
  subst e1 e2 e3
  clear hC
  have HR := Lib.hid hr
  clear hr
  by_cases h2 : rs.length < 2
  · have hd : decide ((rs.length : Int) < 2) = true := decide_eq_true (by omega)
    go_enter Try.func80, Try.ntmps80
    go_wp2
    refine bodyPost_ret (v := .slice (some ⟨g, 0, none⟩) rs.length cap) (by simp [results, Try.results80, go_sem]) rfl ⟨rs.length, rfl, ?_, Below.refl _ _⟩
    have : tidyF rs = rs := by
      match rs, h2 with
      | [], _ => rfl
      | [x], _ => rfl
    rw [this]
    exact HR.out
  have hd : decide ((rs.length : Int) < 2) = false := decide_eq_false (by omega)
  go_enter Try.func80, Try.ntmps80
  go_wp2_with fail
  go_loopw [5] (CompactAt w g rs.length cap base ok rs) (fun i _ => rs.length - (intOf i).toNat)
  case atStart =>
    refine ⟨1, rfl, Nat.le_refl _, by omega, ?_, Below.refl _ _, HR.out⟩
    cases rs with
    | nil => rfl
    | cons x r => rfl
  case round =>
    obtain ⟨k, rfl, hk1, hk, ht, hB, hR⟩ := hrel
    have HT := Lib.hid ht
    have HB := Lib.hid hB
    have HR1 := Lib.hid hR
    clear ht hB hR
    by_cases hlt : k < rs.length
    · have hdk : decide ((k : Int) < (rs.length : Int)) = true := by simpa using hlt
      obtain ⟨A_, c_, e_, _, hC⟩ := Kd.R_reads HR1.out
      injection e_ with e1 e2 e3
      subst e1 e3
      obtain ⟨ad, e1, x0, x1⟩ := at_T82 hC (k : Int) (by omega) (by omega)
      obtain ⟨ad', e1', y0, y1⟩ := at_T82 hC ((k : Int) - 1) (by omega) (by omega)
      injection e1 with e1
      injection e1' with e1'
      subst e1 e1'
      have hk1' : (k : Int) - 1 = ((k - 1 : Nat) : Int) := by omega
      have hkm : k - 1 < rs.length := by omega
      have ht' : ((k : Int) - 1).toNat = k - 1 := by omega
      rw [rdR_at rs k hlt, Int.toNat_natCast] at x0 x1
      rw [hk1', rdR_at rs (k - 1) hkm, Int.toNat_natCast] at y0 y1
      have HT1 := Lib.hid (tidyF_take rs k (by omega) hlt)
      have HX := Lib.hid (List.take_succ_eq_append_getElem hlt)
      generalize rs[k] = x at x0 x1 HT1 HX
      generalize rs[k - 1] = y at y0 y1 HT1
      rw [add_plain] at x0 x1 y0 y1
      have hsub : IntKind.i64.wrap ((k - 1 : Nat) : Int) = ((k - 1 : Nat) : Int) := IntWalk.i64_in _ (by omega)
      have hk0 : (0 : Int) ≤ (k : Int) := by omega
      have hkl : (k : Int) < (rs.length : Int) := by omega
      have hj0 : (0 : Int) ≤ ((k - 1 : Nat) : Int) := by omega
      have hjl : ((k - 1 : Nat) : Int) < (rs.length : Int) := by omega
      go_wp2_with fail
      go_still_tail 10, (by kernel_rfl)
      change wpList _ _ _ _ _ wr.drew
      have HBd : Hid (Below base w wr.drew) := Lib.hid (below_drew HB.out)
      have HRd : Hid (Kd.R k82 82 wr.drew base ok (.slice (some ⟨g, 0, none⟩) rs.length cap) rs) := Lib.hid (Kd.R_move HR1.out (fun _ _ => rfl))
      generalize wr.drew = w2 at HBd HRd ⊢
      clear x0 x1 y0 y1 hC
      go_wp2_with fail
      refine (tidy_eq _ _ _ _ _).mono ?_
      rintro e w1 ⟨rfl, hb1⟩
      have HB1 := Lib.hid (below_then HBd.out (by have := HBd.out.size; omega) hb1)
      have HR2 := Lib.hid (Kd.R_below HRd.out hb1)
      clear hb1 HBd HRd HB HR1
      by_cases he : x.f1 = y.f1
      · have hde : (x.f1 == y.f1) = true := by simpa using he
        have HT2 : Hid (tidyF (List.take (k + 1) rs) = rs.take k) := Lib.hid (by rw [HT1.out, if_pos he, List.append_nil, HT.out])
        rw [hde]
        clear hde he HT1 HT hd hdk hsub hk0 hkl hj0 hjl
        go_wp2_with fail
        go_loopw [5, 7] (CompactIn w g rs.length cap base k ok rs) (fun _ i2 _ => rs.length - (intOf i2).toNat)
        case atStart => exact ⟨k, 1, rs, rfl, rfl, Nat.le_refl _, by omega, by omega, rfl, rfl, HT2.out.symm, HB1.out, HR2.out⟩
        case round =>
          obtain ⟨j, m, ys, rfl, rfl, hm1, hkm2, hjk, hyl, hyd, hyt, hB, hR⟩ := hrel
          have HB3 := Lib.hid hB
          have HR3 := Lib.hid hR
          have HYL := Lib.hid hyl
          have HYD := Lib.hid hyd
          have HYT := Lib.hid hyt
          clear hB hR hyl hyd hyt HR2 HB1 HT2
          by_cases hmn : m < rs.length - k
          · have hdm : decide ((m : Int) < ((rs.length - k : Nat) : Int)) = true := decide_eq_true (by omega)
            obtain ⟨A_, c_, e_, _, hC⟩ := Kd.R_reads HR3.out
            injection e_ with e1 e2 e3
            subst e1 e3
            clear e2
            obtain ⟨ad, e1, x0, x1⟩ := at_T82 hC ((k + m : Nat) : Int) (by omega) (by have := HYL.out; omega)
            obtain ⟨ad', e1', y0, y1⟩ := at_T82 hC ((k + m - 1 : Nat) : Int) (by omega) (by have := HYL.out; omega)
            obtain ⟨ad3, e3', z0, z1⟩ := at_T82 hC ((j : Nat) : Int) (by omega) (by have := HYL.out; omega)
            injection e1 with e1
            injection e1' with e1'
            injection e3' with e3'
            subst e1 e1' e3'
            have hl1 : k + m < ys.length := by have := HYL.out; omega
            have hl2 : k + m - 1 < ys.length := by have := HYL.out; omega
            have hl3 : j < ys.length := by have := HYL.out; omega
            have hr1 : k + m < rs.length := by omega
            have hr2 : k + m - 1 < rs.length := by omega
            rw [rdR_at ys _ hl1, Int.toNat_natCast] at x0 x1
            rw [rdR_at ys _ hl2, Int.toNat_natCast] at y0 y1
            rw [rdR_at ys _ hl3, Int.toNat_natCast] at z0 z1
            have hy1 : ys[k + m] = rs[k + m] := by
              have h := congrArg (fun l => l[1]?) HYD.out
              simp only [List.getElem?_drop, show k + m - 1 + 1 = k + m by omega] at h
              rw [List.getElem?_eq_getElem hl1, List.getElem?_eq_getElem hr1] at h
              injection h
            have hy2 : ys[k + m - 1] = rs[k + m - 1] := by
              have h := congrArg (fun l => l[0]?) HYD.out
              simp only [List.getElem?_drop, Nat.add_zero] at h
              rw [List.getElem?_eq_getElem hl2, List.getElem?_eq_getElem hr2] at h
              injection h
            have HT1 := Lib.hid (tidyF_take rs (k + m) (by omega) hr1)
            have HSET : Hid (∀ x : Rn, rs[k + m] = x → (ys.set j x).take (j + 1) = tidyF (rs.take (k + m)) ++ [x]) := Lib.hid (fun x hx => by
              rw [← HYT.out, List.take_succ_eq_append_getElem (by rw [List.length_set]; omega), List.getElem_set_self, List.take_set_of_le (Nat.le_refl _)])
            have HDR : Hid (∀ x : Rn, (ys.set j x).drop (k + m) = rs.drop (k + m)) := Lib.hid (fun x => by
              rw [List.drop_set_of_lt (by omega)]
              have h := congrArg (List.drop 1) HYD.out
              rwa [List.drop_drop, List.drop_drop, show k + m - 1 + 1 = k + m by omega] at h)
            have HDR0 : Hid (ys.drop (k + m) = rs.drop (k + m)) := Lib.hid (by
              have h := congrArg (List.drop 1) HYD.out
              rwa [List.drop_drop, List.drop_drop, show k + m - 1 + 1 = k + m by omega] at h)
            have HP : Hid (rd_T82 ys ((k + m : Nat) : Int) = rs[k + m]) := Lib.hid (by rw [rdR_at ys _ hl1, hy1])
            rw [hy1] at x0 x1
            rw [hy2] at y0 y1
            have HSP := Lib.hid (HSET.out _ rfl)
            clear HSET
            generalize rs[k + m] = p at x0 x1 HT1 HSP HP
            generalize rs[k + m - 1] = q at y0 y1 HT1
            generalize ys[j] = o at z0 z1
            clear hy1 hy2
            rw [add_plain] at x0 x1 y0 y1 z0 z1
            rw [show (k + m) * 2 = k * 2 + m * 2 by omega] at x0 x1
            rw [show (k + m - 1) * 2 = k * 2 + (m - 1) * 2 by omega] at y0 y1
            have hm' : (m : Int) - 1 = ((m - 1 : Nat) : Int) := by omega
            have hsub : IntKind.i64.wrap ((m - 1 : Nat) : Int) = ((m - 1 : Nat) : Int) := IntWalk.i64_in _ (by omega)
            have hk0 : (0 : Int) ≤ (m : Int) := by omega
            have hkl : (m : Int) < ((rs.length - k : Nat) : Int) := by omega
            have hj0 : (0 : Int) ≤ ((m - 1 : Nat) : Int) := by omega
            have hjl : ((m - 1 : Nat) : Int) < ((rs.length - k : Nat) : Int) := by omega
            go_wp2_with fail
            go_still_tail 10, (by kernel_rfl)
            change wpList _ _ _ _ _ wr.drew
            have HBd : Hid (Below base w wr.drew) := Lib.hid (below_drew HB3.out)
            have HRd : Hid (Kd.R k82 82 wr.drew base ok (.slice (some ⟨g, 0, none⟩) rs.length cap) ys) := Lib.hid (Kd.R_move HR3.out (fun _ _ => rfl))
            generalize wr.drew = w2 at HBd HRd ⊢
            clear x0 x1 y0 y1 z0 z1 hC
            have HBS : Hid (base ≤ w2.heap.size) := Lib.hid (by have := HBd.out.size; omega)
            go_wp2_with fail
            refine (tidy_eq _ _ _ _ _).mono ?_
            rintro e w1 ⟨rfl, hb1⟩
            have HB4 := Lib.hid (below_then HBd.out HBS.out hb1)
            have HR4 := Lib.hid (Kd.R_below HRd.out hb1)
            clear hb1 HBd HRd HB3 HR3 HBS
            obtain ⟨A_, c_, e_, _, hC⟩ := Kd.R_reads HR4.out
            injection e_ with e1 e2 e3
            subst e1 e3
            clear e2
            by_cases he : p.f1 = q.f1
            · have hde : (p.f1 == q.f1) = true := by simpa using he
              have HT2 : Hid (tidyF (List.take (k + m + 1) rs) = tidyF (rs.take (k + m))) := Lib.hid (by rw [HT1.out, if_pos he, List.append_nil])
              rw [hde]
              clear hC HT1 he hde hdm hsub hk0 hkl hj0 hjl hm'
              go_wp2_with fail
              go_roundw
              case rel => exact ⟨j, m + 1, ys, rfl, by go_num, by omega, by omega, by omega, HYL.out, by rw [show k + (m + 1) - 1 = k + m by omega]; exact HDR0.out, by rw [HYT.out, ← HT2.out, Nat.add_assoc], HB4.out, HR4.out⟩
              case measure => simp [intOf]; omega
            · have hde : (p.f1 == q.f1) = false := by simpa using he
              have HT2 : Hid (tidyF (List.take (k + m + 1) rs) = tidyF (rs.take (k + m)) ++ [p]) := Lib.hid (by rw [HT1.out, if_neg he])
              rw [hde]
              clear HT1 he hde hdm hsub hj0 hjl hm'
              obtain ⟨ad, e1, x0, x1⟩ := at_T82 hC ((k + m : Nat) : Int) (by omega) (by have := HYL.out; omega)
              obtain ⟨ad3, e3', z0, z1⟩ := at_T82 hC ((j : Nat) : Int) (by omega) (by have := HYL.out; omega)
              injection e1 with e1
              injection e3' with e3'
              subst e1 e3'
              rw [HP.out, Int.toNat_natCast, add_plain, show (k + m) * 2 = k * 2 + m * 2 by omega] at x0 x1
              rw [Int.toNat_natCast, add_plain] at z0 z1
              have HZ : Hid (∀ (i : Nat) (u : Value), [Value.int .i64 (rd_T82 ys (j : Int)).f0, Value.int .i64 (rd_T82 ys (j : Int)).f1][i]? = some u → w1.cell? ⟨g, ((j : Nat) : Int).toNat * 2 + i, none⟩ = some u) := Lib.hid (by
                intro i u hu
                match i, hu with
                | 0, hu => injection hu with hu; subst hu; exact z0
                | 1, hu => injection hu with hu; subst hu; exact z1)
              clear z0 z1 hC
              have hjl : (j : Int) < (rs.length : Int) := by omega
              have HJL := Lib.hid hjl
              go_wp2_with (first | ((with_reducible refine gate_ (.store 82 (.tmp 56) (.tmp 55)) rfl ?_); refine Kd.R_store k82 (w0 := w) base rfl rfl 82 (.tmp 56) (.tmp 55) rfl 82 (g := g) (n := rs.length) (cap := cap) (o' := j * 2) (j : Int) 0 ys p (.agg #[.int .i64 p.f0, .int .i64 p.f1]) [.int .i64 p.f0, .int .i64 p.f1] [Value.int .i64 (rd_T82 ys (j : Int)).f0, Value.int .i64 (rd_T82 ys (j : Int)).f1] ok (fun _ => False) ?a1 ?a2 ?a3 ?a4 ?a5 ?a6 ?a7 ?a8 ?a9 ?b1 ?b2 ?b3 ?b4 ?b5 ?b6 ?_; (case a1 => rfl); (case a2 => rfl); (case a3 => rfl); (case a4 => rfl); (case a5 => rfl); (case a6 => (intro q hq; simp at hq; rcases hq with rfl | rfl <;> rfl)); (case a7 => exact HR4.out); (case a8 => exact Int.natCast_nonneg j); (case a9 => exact HJL.out); (case b1 => rfl); (case b2 => exact HZ.out); (case b3 => exact Nat.le_refl _); (case b4 => exact k82_mkM _ _ _ p); (case b5 => exact fun _ h => h.elim); (case b6 => exact HB4.out); intro w3 hr3 hb3 hg3; have HR5 := Lib.hid hr3; have HB5 := Lib.hid hb3; clear hr3 hb3 hg3))
              go_roundw
              case rel => exact ⟨j + 1, m + 1, ys.set j p, by go_num, by go_num, by omega, by omega, by omega, by rw [List.length_set]; exact HYL.out, by rw [show k + (m + 1) - 1 = k + m by omega]; exact HDR.out p, by rw [HSP.out, ← HT2.out, Nat.add_assoc], HB5.out, HR5.out⟩
              case measure => simp [intOf]; omega
          · have hdm : decide ((m : Int) < ((rs.length - k : Nat) : Int)) = false := decide_eq_false (by omega)
            obtain ⟨inner, ho⟩ := Kd.R_own HR3.out
            have ho2 := ho.2
            rcases ho2 with ⟨hv, _⟩ | ⟨g', cap', cur, hv, hb', hh, hnc, hcm, hcs, _⟩
            · cases hv
            injection hv with e1 e2 e3
            injection e1 with e1
            injection e1 with e1
            subst e1 e3
            clear e2
            have hcs' : cur.size = cap * 2 := hcs
            obtain ⟨vs, hvl, hrun⟩ := run_clear_runs g j (rs.length - j) (cap - j) cap 82 hh (by omega) (by omega) 0
            obtain ⟨HRN, HGN⟩ := row_clear HR3.out j (by omega) vs hvl
            have HRN := Lib.hid HRN
            have HB4 := Lib.hid (HB3.out.trans ⟨HGN.os, HGN.tape, HGN.output, HGN.size, fun i hi => (setCells_far vs _ i (by omega))⟩)
            have HT2 : Hid (tidyF rs = ys.take j) := Lib.hid (by rw [HYT.out, show k + m = rs.length by omega, List.take_length])
            clear HGN HR3 hh ho hcs hcs' HYL HYD
            go_wp2
            refine bodyPost_ret (v := .slice (some ⟨g, 0, none⟩) j cap) (by simp [results, Try.results80, go_sem]) rfl ⟨j, rfl, by rw [HT2.out]; exact HRN.out, HB4.out⟩
      · have hde : (x.f1 == y.f1) = false := by simpa using he
        have HT2 : Hid (tidyF (List.take (k + 1) rs) = rs.take (k + 1)) := Lib.hid (by
          rw [HT1.out, if_neg he, HT.out, HX.out])
        rw [hde]
        go_wp2_with fail
        go_roundw
        case rel => exact ⟨k + 1, by go_num, by omega, by omega, HT2.out, HB1.out, HR2.out⟩
        case measure => simp [intOf]; omega
    · have hdk : decide ((k : Int) < (rs.length : Int)) = false := by simpa using hlt
      go_wp2
      refine bodyPost_ret (v := .slice (some ⟨g, 0, none⟩) rs.length cap) (by simp [results, Try.results80, go_sem]) rfl ⟨rs.length, rfl, ?_, HB.out⟩
      obtain rfl : k = rs.length := by omega
      have := HT.out
      rw [List.take_length] at this
      rw [this]
      exact HR1.out
end Go.Proofs.Ytbacdpagpdmkoaa.Man

/- Runs as cells of a row: a row of one's own by its cells; copy from row to row; append of make. -/
namespace Go.Proofs.Ytbacdpagpdmkoaa.Man
open Go.RowKit Go.Proofs.Ytbacdpagpdmkoaa.QT Go.Proofs.YtbacdpagpdmkoaaW.PrintWords Go.Proofs.YtbacdpagpdmkoaaW.PrintLast Go.Proofs.YtbacdpagpdmkoaaW.PrintMore

def cellsOf (rs : List Rn) : List Value := rs.flatMap fun x => [.int .i64 x.f0, .int .i64 x.f1]
theorem cellsOf_length : ∀ rs : List Rn, (cellsOf rs).length = rs.length * 2
  | [] => rfl
  | x :: r => by
    have := cellsOf_length r
    simp only [cellsOf, List.flatMap_cons, List.length_append, List.length_cons, List.length_nil] at this ⊢
    omega
theorem cellsOf_append (a b : List Rn) : cellsOf (a ++ b) = cellsOf a ++ cellsOf b := by simp [cellsOf, List.flatMap_append]
theorem cellsOf_one (x : Rn) : cellsOf [x] = [.int .i64 x.f0, .int .i64 x.f1] := rfl
theorem cellsOf_take : ∀ (rs : List Rn) (m : Nat), (cellsOf rs).take (m * 2) = cellsOf (rs.take m)
  | [], m => by simp [cellsOf]
  | x :: r, 0 => by simp [cellsOf]
  | x :: r, m + 1 => by
    have := cellsOf_take r m
    rw [show (m + 1) * 2 = m * 2 + 1 + 1 by omega]
    show Value.int .i64 x.f0 :: Value.int .i64 x.f1 :: (cellsOf r).take (m * 2) = _
    rw [this]
    rfl
theorem cellsOf_drop : ∀ (rs : List Rn) (m : Nat), (cellsOf rs).drop (m * 2) = cellsOf (rs.drop m)
  | [], m => by simp [cellsOf]
  | x :: r, 0 => by simp [cellsOf]
  | x :: r, m + 1 => by
    have := cellsOf_drop r m
    rw [show (m + 1) * 2 = m * 2 + 1 + 1 by omega]
    show (cellsOf r).drop (m * 2) = _
    rw [this]
    rfl
theorem cellsOf_one_cell (rs : List Rn) : ∀ v ∈ cellsOf rs, v.oneCell' = true := by
  intro v hv
  simp only [cellsOf, List.mem_flatMap] at hv
  obtain ⟨x, _, hx⟩ := hv
  simp at hx
  rcases hx with rfl | rfl <;> rfl
theorem cellsOf_reps (rs : List Rn) (R : Rn → List Value → Prop) (h : ∀ x, R x [.int .i64 x.f0, .int .i64 x.f1]) : Reps R 2 rs (cellsOf rs) := by
  refine ⟨cellsOf_length rs, fun j p hj => ?_⟩
  rw [cellsOf_drop]
  have hl := (List.getElem?_eq_some_iff.1 hj).1
  have hp : rs[j] = p := (List.getElem?_eq_some_iff.1 hj).2
  rw [List.drop_eq_getElem_cons hl, hp]
  exact h p
theorem reps_cellsOf {R : Rn → List Value → Prop} {rs : List Rn} {cs : List Value} (h : Reps R 2 rs cs) (hR : ∀ x c, R x c → c = [.int .i64 x.f0, .int .i64 x.f1]) : cs = cellsOf rs := by
  induction rs generalizing cs with
  | nil => exact List.eq_nil_of_length_eq_zero (by simpa using h.1)
  | cons x r ih =>
    have h0 := hR x _ (h.2 0 x rfl)
    have hl := h.1
    rw [Nat.zero_mul, List.drop_zero] at h0
    have ht : Reps R 2 r (cs.drop 2) := ⟨by rw [List.length_drop, hl]; simp; omega, fun j p hj => by
      have := h.2 (j + 1) p hj
      rwa [List.drop_drop, show 2 + j * 2 = (j + 1) * 2 by omega]⟩
    rw [← List.take_append_drop 2 cs, h0, ih ht]
    rfl

/-- A row of one's own, by its cells. -/
theorem row_to {e base g n cap : Nat} {ok : Nat → Prop} {W : World} {rs : List Rn} (h : Kd.R k82 e W base ok (.slice (some ⟨g, 0, none⟩) n cap) rs) :
    ∃ cur : Array Value, W.heap[g]? = some (.cells cur e (0, 0)) ∧ base ≤ g ∧ n = rs.length ∧ rs.length ≤ cap ∧ cap ≤ maxLen ∧ cur.size = cap * 2 ∧ cur.toList.take (rs.length * 2) = cellsOf rs := by
  obtain ⟨h0, inner, ho, hr⟩ := h
  rcases ho.2 with ⟨hv, _⟩ | ⟨g', cap', cur, hv, hb, hh, hnc, hcm, hcs, ht⟩
  · cases hv
  injection hv with e1 e2 e3
  injection e1 with e1
  injection e1 with e1
  subst e1 e2 e3
  have hi : inner = cellsOf rs := reps_cellsOf hr (fun x c hc => k82_openM hc)
  subst hi
  exact ⟨cur, hh, hb, rfl, hnc, hcm, hcs, ht⟩
theorem row_of {e base g cap : Nat} {ok : Nat → Prop} {W : World} {rs : List Rn} {cur : Array Value} (hh : W.heap[g]? = some (.cells cur e (0, 0))) (hb : base ≤ g) (hok : ok g) (hl : rs.length ≤ cap) (hm : cap ≤ maxLen) (hs : cur.size = cap * 2) (ht : cur.toList.take (rs.length * 2) = cellsOf rs) :
    Kd.R k82 e W base ok (.slice (some ⟨g, 0, none⟩) rs.length cap) rs :=
  ⟨fun k hk => (by simp [Value.ownBlock] at hk; subst hk; exact hok), cellsOf rs, ⟨cellsOf_length rs, .inr ⟨g, cap, cur, rfl, hb, hh, hl, hm, hs, ht⟩⟩, cellsOf_reps rs _ (fun x => k82_mkM _ _ _ x)⟩

/-- copy of runs: from block a, from cell ao on, to block b, from cell bo on; 'cs': what goes over. -/
theorem run_copy_runs {W : World} (ty : TypeId) (b bo dl dc a ao sl sc n : Nat) (cs : List Value) {cb ca : Array Value} {tb ta : TypeId} (hb : W.heap[b]? = some (.cells cb tb (0, 0))) (ha : W.heap[a]? = some (.cells ca ta (0, 0)))
    (hn : Nat.min sl dl = n) (hl : cs.length = n * 2) (hsrc : (ca.toList.drop ao).take (n * 2) = cs) (hfit : bo + n * 2 ≤ cb.size) (h1 : ∀ v ∈ cs, v.oneCell' = true) :
    (Builtin.copy_ #[50, 50] ty #[.slice (some ⟨b, bo, none⟩) dl dc, .slice (some ⟨a, ao, none⟩) sl sc]).run Try.prog W = .ok (goInt (n : Int)) (W.setCells b bo cs) := by
  have hsr : ∀ j v, cs[j]? = some v → W.cell? ((⟨a, ao, none⟩ : Addr).add j) = some v := by
    intro j v hj
    rw [Addr.add_lit, cell_of_row W a _ ca ta (0, 0) ha]
    rw [← hsrc, List.getElem?_take] at hj
    split at hj
    · rw [List.getElem?_drop] at hj
      rwa [← Array.getElem?_toList]
    · cases hj
  have hld := run_loadCells_list (P := Try.prog) W ⟨a, ao, none⟩ cs hsr
  have hst := run_storeCells_cells (P := Try.prog) b bo cs 0 W (fun j hj => by rw [cell_of_row W b _ cb tb (0, 0) hb]; simp; omega) (fun j _ => blk_frozen hb _) h1
  simp only [Nat.add_zero] at hst
  obtain ⟨i0, hi0, _, hsz0, _⟩ := info_parts info82
  have hnl : n * 2 = cs.length := hl.symm
  simp [Builtin.copy_, run_underlying Try.underlying50, Builtin.lenOf, Builtin.firstCells, sizeOf, typeInfo, hi0, hsz0, hn, hnl, hld, hst]

/-- append(s[:i], make([]Run, m)...) where there is no room. -/
theorem run_append_make {W : World} (ty : TypeId) (g i cap m : Nat) (olds : List Value) {cur : Array Value} {tg : TypeId} (hh : W.heap[g]? = some (.cells cur tg (0, 0))) (hi : i * 2 ≤ cur.size) (hol : cur.toList.take (i * 2) = olds) (h0 : 0 < m) (hg : cap < i + m) (hbig : (i + m) * 16 ≤ 140737488355328) :
    ∃ (c : Nat) (cells : Array Value), i + m ≤ c ∧ c ≤ maxLen ∧ cells.size = c * 2 ∧ cells.toList.take (i * 2) = olds ∧
      (Builtin.append_ #[50, 3] ty #[.slice (some ⟨g, 0, none⟩) i cap, .int .i64 (m : Int)]).run Try.prog W = .ok (.slice (some ⟨W.heap.size, 0, none⟩) (i + m) c) (W.drew.alloc (.cells cells 82)) := by
  obtain ⟨i0, hi0, hz0, hsz0, hby0⟩ := info_parts info82
  have hol' : olds.length = i * 2 := by rw [← hol, List.length_take, Array.length_toList]; omega
  have hold : (Builtin.firstCells 2 i (.slice (some ⟨g, 0, none⟩) i cap)).run Try.prog W.drew = .ok olds.toArray W.drew :=
    run_firstCells_some W.drew 2 i ⟨g, 0, none⟩ i cap olds hol' (fun j v hj => by
      have hc : W.drew.heap[g]? = some (.cells cur tg (0, 0)) := hh
      rw [Addr.add_lit, Nat.zero_add, cell_of_row W.drew g _ cur tg (0, 0) hc]
      rw [← hol, List.getElem?_take] at hj
      split at hj
      · rwa [← Array.getElem?_toList]
      · cases hj)
  have hml : maxLen = 9223372036854775807 := rfl
  have hcm : grownCap W (i + m) cap 82 ≤ maxLen := grownCap_le_maxLen W (i + m) cap 82 (by omega)
  have hge := grownCap_ge W (i + m) cap 82
  have hfit := growslice_fits hg hbig
  have hn : ¬ (i + m ≤ cap) := by omega
  have h63 : ¬ (9223372036854775807 < ((i : Int) + (m : Int))) := by omega
  have h48' : ¬ (281474976710656 < Builtin.nextslicecap (i + m) cap * 16) := by omega
  have hw : IntKind.i64.wrap (m : Int) = m := by rw [IntKind.wrap_i64]; omega
  have hneg : ¬ ((m : Int) < 0) := by omega
  have h48i : ¬ (281474976710656 < (m : Int) * 16) := by omega
  have hm0 : m ≠ 0 := by omega
  refine ⟨grownCap W (i + m) cap 82, olds.toArray ++ Builtin.zeroCells #[Value.int .i64 0, Value.int .i64 0] m ++ Builtin.zeroCells #[Value.int .i64 0, Value.int .i64 0] (grownCap W (i + m) cap 82 - (i + m)), hge, hcm, ?_, ?_, ?_⟩
  · simp [Builtin.zeroCells, hol']
    omega
  · simp [List.take_append_of_le_length, hol']
  · have hu3 := run_underlying (P := Try.prog) Try.underlying3
    have hzc : (Value.agg #[.int .i64 0, .int .i64 0]).cells = #[Value.int .i64 0, Value.int .i64 0] := by rfl
    simp [Builtin.append_, run_underlying Try.underlying50, hu3, sizeOf, typeInfo, zeroValue, hi0, hz0, hsz0, hby0, asInt, asIntOf, hw, hn, hneg, hm0, h63, h48', h48i, Question.forced, hold, newRow, grownCap, hzc]
    intro h
    omega
end Go.Proofs.Ytbacdpagpdmkoaa.Man

/- slices.Insert of one run, at a row of the call's own. -/
namespace Go.Proofs.Ytbacdpagpdmkoaa.Man
open Go.RowKit Go.Proofs.Ytbacdpagpdmkoaa.QT Go.Proofs.YtbacdpagpdmkoaaW.PrintWords Go.Proofs.YtbacdpagpdmkoaaW.PrintLast Go.Proofs.YtbacdpagpdmkoaaW.PrintMore

def insF (rs : List Rn) (i : Nat) (x : Rn) : List Rn := rs.take i ++ x :: rs.drop i
theorem insF_length (rs : List Rn) (i : Nat) (x : Rn) : (insF rs i x).length = rs.length + 1 := by
  unfold insF
  simp only [List.length_append, List.length_cons, List.length_take, List.length_drop]
  omega
theorem cellsOf_insF (rs : List Rn) (i : Nat) (x : Rn) : cellsOf (insF rs i x) = cellsOf (rs.take i) ++ cellsOf [x] ++ cellsOf (rs.drop i) := by
  unfold insF
  rw [cellsOf_append, show x :: rs.drop i = [x] ++ rs.drop i from rfl, cellsOf_append, List.append_assoc]

set_option maxHeartbeats 4000000 in
set_option maxRecDepth 100000 in
/-- At the end. -/
theorem insert_end (g n cap base vb : Nat) (rs : List Rn) (x : Rn) (w : World) (hr : Kd.R k82 82 w base (fun _ => True) (.slice (some ⟨g, 0, none⟩) n cap) rs) (hv : w.heap[vb]? = some (.cells #[.int .i64 x.f0, .int .i64 x.f1] 82 (0, 0)))
    (hb : base ≤ w.heap.size) (hl : (rs.length + 1) * 16 ≤ 140737488355328) :
    Calls Try.prog 97 #[.slice (some ⟨g, 0, none⟩) n cap, .int .i64 (rs.length : Int), .slice (some ⟨vb, 0, none⟩) 1 1] w fun e w' => ∃ v, e = .returned v ∧ Kd.R k82 82 w' base (fun _ => True) v (insF rs rs.length x) ∧ Below base w w' := by
  obtain ⟨cur, hh, hbg, rfl, hnc, hcm, hcs, htk⟩ := row_to hr
  have hX : Kd.C k82 w (some ⟨vb, 0, none⟩) 1 [x] := by
    have h1 := row_of (base := 0) (ok := fun _ => True) (rs := [x]) (cap := 1) hv (Nat.zero_le _) trivial (by simp) (by decide) rfl rfl
    obtain ⟨A, c, e, _, hC⟩ := Kd.R_reads h1
    injection e with e1 e2 e3
    rw [e1]
    exact hC
  have HX := Lib.hid hX
  have HR := Lib.hid hr
  have HI : Hid (insF rs rs.length x = rs ++ [x]) := Lib.hid (by unfold insF; rw [List.take_length, List.drop_length])
  clear hX hr hh hcs htk hv
  have hmx : maxLen = 9223372036854775807 := rfl
  by_cases hcap : cap = rs.length
  · subst hcap
    go_enter Try.func97, Try.ntmps97
    have hdn : decide ((rs.length : Int) = (rs.length : Int)) = true := by simp
    go_wp2_with (((with_reducible refine gate_builtin (b := .append) (xs := #[.tmp 23, .tmp 24]) rfl ?_); at_builtin; refine Kd.R_append_rows k82 (Rr := k82.K w) (w0 := w) base rfl (.tmp 23) (.tmp 24) 50 82 (.agg #[.int .i64 0, .int .i64 0]) 16 rfl Try.underlying50 info82 rfl (by decide) (by omega) (.slice (some ⟨g, 0, none⟩) rs.length rs.length) rs [x] (some ⟨vb, 0, none⟩) 1 1 (fun _ => True) (fun _ => False) rfl rfl ?aO ?aR ?aM (fun _ h => h.elim) ?aF ?aB ?aS ?aL ?_; (case aO => exact HR.out); (case aR => exact HX.out); (case aM => (intro y cs hy; obtain rfl := k82_open hy; exact k82_mkM _ _ _ y)); (case aF => exact (fun _ _ => trivial)); (case aB => exact Below.refl _ _); (case aS => exact hb); (case aL => exact hl); intro v1 w1 ho1 hb1 hg1 hat1; have HO1 := Lib.hid ho1; have HB1 := Lib.hid hb1; clear ho1 hb1 hg1 hat1))
    go_ret
    exact ⟨_, rfl, by rw [HI.out]; exact HO1.out, HB1.out⟩
  · have hlt : rs.length < cap := by omega
    go_enter Try.func97, Try.ntmps97
    go_wp2_with (((with_reducible refine gate_builtin (b := .append) (xs := #[.tmp 23, .tmp 24]) rfl ?_); at_builtin; refine Kd.R_append_rows k82 (Rr := k82.K w) (w0 := w) base rfl (.tmp 23) (.tmp 24) 50 82 (.agg #[.int .i64 0, .int .i64 0]) 16 rfl Try.underlying50 info82 rfl (by decide) (by omega) (.slice (some ⟨g, 0, none⟩) rs.length cap) rs [x] (some ⟨vb, 0, none⟩) 1 1 (fun _ => True) (fun _ => False) rfl rfl ?aO ?aR ?aM (fun _ h => h.elim) ?aF ?aB ?aS ?aL ?_; (case aO => exact HR.out); (case aR => exact HX.out); (case aM => (intro y cs hy; obtain rfl := k82_open hy; exact k82_mkM _ _ _ y)); (case aF => exact (fun _ _ => trivial)); (case aB => exact Below.refl _ _); (case aS => exact hb); (case aL => exact hl); intro v1 w1 ho1 hb1 hg1 hat1; have HO1 := Lib.hid ho1; have HB1 := Lib.hid hb1; clear ho1 hb1 hg1 hat1))
    go_ret
    exact ⟨_, rfl, by rw [HI.out]; exact HO1.out, HB1.out⟩

set_option maxHeartbeats 4000000 in
set_option maxRecDepth 100000 in
/-- No room: a new row. -/
theorem insert_grow (g n cap base vb i : Nat) (rs : List Rn) (x : Rn) (w : World) (hr : Kd.R k82 82 w base (fun _ => True) (.slice (some ⟨g, 0, none⟩) n cap) rs) (hv : w.heap[vb]? = some (.cells #[.int .i64 x.f0, .int .i64 x.f1] 82 (0, 0)))
    (hb : base ≤ w.heap.size) (hi : i < rs.length) (hg : cap < rs.length + 1) (hl : (rs.length + 1) * 16 ≤ 140737488355328) :
    Calls Try.prog 97 #[.slice (some ⟨g, 0, none⟩) n cap, .int .i64 (i : Int), .slice (some ⟨vb, 0, none⟩) 1 1] w fun e w' => ∃ v, e = .returned v ∧ Kd.R k82 82 w' base (fun _ => True) v (insF rs i x) ∧ Below base w w' := by
  obtain ⟨cur, hh, hbg, rfl, hnc, hcm, hcs, htk⟩ := row_to hr
  have hgl := blk_lt hh
  have hvl := blk_lt hv
  have htki : cur.toList.take (i * 2) = cellsOf (rs.take i) := by
    rw [← cellsOf_take, ← htk, List.take_take, Nat.min_eq_left (by omega)]
  have htkd : (cur.toList.drop (i * 2)).take ((rs.length - i) * 2) = cellsOf (rs.drop i) := by
    rw [← cellsOf_drop, ← htk, List.take_drop, show i * 2 + (rs.length - i) * 2 = rs.length * 2 by omega]
  have hir : i + (rs.length + 1 - i) = rs.length + 1 := by omega
  obtain ⟨c, cells, hc1, hc2, hc3, hc4, hap⟩ := run_append_make (W := w) 0 g i cap (rs.length + 1 - i) _ hh (by omega) htki (by omega) (by omega) (by omega)
  rw [hir] at hc1
  obtain ⟨W1, hW1⟩ : ∃ W1, W1 = w.drew.alloc (.cells cells 82) := ⟨_, rfl⟩
  rw [← hW1] at hap
  have b1 : W1.heap[w.heap.size]? = some (.cells cells 82 (0, 0)) := by rw [hW1]; exact heap_alloc_new w.drew _
  have hh1 : W1.heap[g]? = some (.cells cur 82 (0, 0)) := by rw [hW1]; exact blk_alloc (show w.drew.heap[g]? = _ from hh) _
  have hv1 : W1.heap[vb]? = some (.cells #[.int .i64 x.f0, .int .i64 x.f1] 82 (0, 0)) := by rw [hW1]; exact blk_alloc (show w.drew.heap[vb]? = _ from hv) _
  have hB1 : Below base w W1 := by rw [hW1]; exact (below_drew (Below.refl base w)).alloc hb _
  have hcp1 := run_copy_runs (W := W1) 3 w.heap.size (i * 2) (rs.length + 1 - i) (c - i) vb 0 1 1 1 (cellsOf [x]) b1 hv1 (by simp only [Nat.min_def]; split <;> omega) rfl rfl (by rw [hc3]; omega) (cellsOf_one_cell _)
  obtain ⟨W2, hW2⟩ : ∃ W2, W2 = W1.setCells w.heap.size (i * 2) (cellsOf [x]) := ⟨_, rfl⟩
  rw [← hW2] at hcp1
  obtain ⟨cur2, b2, s2, l2⟩ := setCells_row (cellsOf [x]) (i * 2) W1 cells b1 (by rw [cellsOf_length, hc3]; simp; omega)
  rw [← hW2] at b2
  have hh2 : W2.heap[g]? = some (.cells cur 82 (0, 0)) := by rw [hW2, setCells_far _ _ g (by omega)]; exact hh1
  have hB2 : Below base w W2 := by
    obtain ⟨q1, q2, q3, q4⟩ := setCells_same w.heap.size (cellsOf [x]) (i * 2) W1
    exact hB1.trans ⟨by rw [hW2]; exact q1, by rw [hW2]; exact q2, by rw [hW2]; exact q3, by rw [hW2, q4]; exact Nat.le_refl _, fun k hk => by rw [hW2]; exact setCells_far _ _ k (by omega)⟩
  have hcp2 := run_copy_runs (W := W2.drew) 3 w.heap.size ((i + 1) * 2) (rs.length + 1 - (i + 1)) (c - (i + 1)) g (i * 2) (rs.length - i) (cap - i) (rs.length - i) (cellsOf (rs.drop i)) (show W2.drew.heap[w.heap.size]? = _ from b2) (show W2.drew.heap[g]? = _ from hh2) (by simp only [Nat.min_def]; split <;> omega) (by rw [cellsOf_length, List.length_drop]) htkd (by rw [s2, hc3]; omega) (cellsOf_one_cell _)
  obtain ⟨W3, hW3⟩ : ∃ W3, W3 = W2.drew.setCells w.heap.size ((i + 1) * 2) (cellsOf (rs.drop i)) := ⟨_, rfl⟩
  rw [← hW3, Nat.add_sub_add_right] at hcp2
  obtain ⟨cur3, b3, s3, l3⟩ := setCells_row (cellsOf (rs.drop i)) ((i + 1) * 2) W2.drew cur2 b2 (by rw [cellsOf_length, List.length_drop, s2, hc3]; omega)
  rw [← hW3] at b3
  have hB3 : Below base w W3 := by
    obtain ⟨q1, q2, q3, q4⟩ := setCells_same w.heap.size (cellsOf (rs.drop i)) ((i + 1) * 2) W2.drew
    exact (below_drew hB2).trans ⟨by rw [hW3]; exact q1, by rw [hW3]; exact q2, by rw [hW3]; exact q3, by rw [hW3, q4]; exact Nat.le_refl _, fun k hk => by rw [hW3]; exact setCells_far _ _ k (by omega)⟩
  have hfin : cur3.toList.take ((insF rs i x).length * 2) = cellsOf (insF rs i x) := by
    have e1 : (cellsOf (rs.take i)).length = i * 2 := by rw [cellsOf_length, List.length_take]; omega
    have e2 : (cellsOf [x]).length = 2 := rfl
    have e3 : (cellsOf (rs.drop i)).length = (rs.length - i) * 2 := by rw [cellsOf_length, List.length_drop]
    rw [insF_length, cellsOf_insF, l3, l2, hc4]
    rw [show (i + 1) * 2 = (cellsOf (rs.take i) ++ cellsOf [x]).length by rw [List.length_append, e1, e2]; omega, List.take_left]
    rw [List.take_append_of_le_length (by rw [List.length_append, List.length_append, e1, e2, e3]; omega)]
    rw [List.take_of_length_le (by rw [List.length_append, List.length_append, e1, e2, e3]; omega)]
  have hR3 := row_of (base := base) (ok := fun _ => True) (rs := insF rs i x) b3 hb trivial (by rw [insF_length]; exact hc1) hc2 (by rw [s3, s2, hc3]) hfin
  rw [insF_length] at hR3
  have HR3 := Lib.hid hR3
  have HB3 := Lib.hid hB3
  have hd1 : decide ((i : Int) = (rs.length : Int)) = false := decide_eq_false (by omega)
  have hd2 : ¬ ((i : Int) = (rs.length : Int)) := by omega
  have hw1 : IntKind.i64.wrap ((rs.length : Int) + 1) = (rs.length : Int) + 1 := IntWalk.i64_in _ (by omega)
  have hw2 : IntKind.i64.wrap ((rs.length : Int) + 1 - (i : Int)) = ((rs.length + 1 - i : Nat) : Int) := by rw [IntWalk.i64_in _ (by omega)]; omega
  have hw3 : IntKind.i64.wrap ((i : Int) + 1) = (i : Int) + 1 := IntWalk.i64_in _ (by omega)
  have hb1 : (0 : Int) ≤ (i : Int) + 1 := by omega
  have htn : ((i : Int) + 1).toNat = i + 1 := by omega
  have hk8 : (i : Int) + 1 ≤ (rs.length : Int) + 1 := by omega
  have hk9 : (i : Int) + 1 ≤ ((rs.length + 1 : Nat) : Int) := by omega
  have hm : maxLen = 9223372036854775807 := rfl
  have hd3 : decide ((rs.length : Int) + 1 > (cap : Int)) = true := decide_eq_true (by omega)
  have hk1 : ¬ cap = i := by omega
  have hk2 : ¬ c = i := by omega
  have hk3 : ¬ c = i + 1 := by omega
  have hk4 : (i : Int) ≤ (rs.length : Int) := by omega
  have hk5 : (i : Int) ≤ (cap : Int) := by omega
  have hk6 : (i : Int) ≤ ((rs.length + 1 : Nat) : Int) := by omega
  have hk7 : ((i + 1 : Nat) : Int) ≤ ((rs.length + 1 : Nat) : Int) := by omega
  clear hh hv hr hh1 hv1 b1 b2 b3 hh2 hB1 hB2 hB3 hR3 l2 l3 s2 s3 hfin hc4 hc3 htki htkd htk hcs hW1 hW2 hW3
  go_enter Try.func97, Try.ntmps97
  go_wp2_with (first
    | ((with_reducible refine gate_builtin (b := .append) (xs := #[.tmp 34, .tmp 39]) rfl ?_); at_builtin; refine Lib.wpList_append_run _ rfl _ _ _ _ rfl _ _ rfl rfl _ _ hap ?_)
    | ((with_reducible refine gate_builtin (b := .copy) (xs := #[.tmp 43, .tmp 44]) rfl ?_); at_builtin; refine wpList_copy_runI _ rfl _ _ 50 50 rfl _ _ rfl rfl hcp1 ?_))
  go_still_tail 8, (by kernel_rfl)
  change wpList _ _ _ _ _ W2.drew
  go_wp2_with (first
    | ((with_reducible refine gate_builtin (b := .copy) (xs := #[.tmp 50, .tmp 53]) rfl ?_); at_builtin; refine wpList_copy_runI _ rfl _ _ 50 50 rfl _ _ rfl rfl hcp2 ?_))
  go_ret
  exact ⟨_, rfl, HR3.out, HB3.out⟩
set_option maxHeartbeats 4000000 in
set_option maxRecDepth 100000 in
/-- There is room: in place. -/
theorem insert_shift (g n cap base vb i : Nat) (rs : List Rn) (x : Rn) (w : World) (hr : Kd.R k82 82 w base (fun _ => True) (.slice (some ⟨g, 0, none⟩) n cap) rs) (hv : w.heap[vb]? = some (.cells #[.int .i64 x.f0, .int .i64 x.f1] 82 (0, 0))) (hne : vb ≠ g)
    (hb : base ≤ w.heap.size) (hi : i < rs.length) (hg : rs.length + 1 ≤ cap) (hl : (rs.length + 1) * 16 ≤ 140737488355328) :
    Calls Try.prog 97 #[.slice (some ⟨g, 0, none⟩) n cap, .int .i64 (i : Int), .slice (some ⟨vb, 0, none⟩) 1 1] w fun e w' => ∃ v, e = .returned v ∧ Kd.R k82 82 w' base (fun _ => True) v (insF rs i x) ∧ Below base w w' := by
  obtain ⟨cur, hh, hbg, rfl, hnc, hcm, hcs, htk⟩ := row_to hr
  have hgl := blk_lt hh
  have hvl := blk_lt hv
  have htki : cur.toList.take (i * 2) = cellsOf (rs.take i) := by
    rw [← cellsOf_take, ← htk, List.take_take, Nat.min_eq_left (by omega)]
  have htkd : (cur.toList.drop (i * 2)).take ((rs.length - i) * 2) = cellsOf (rs.drop i) := by
    rw [← cellsOf_drop, ← htk, List.take_drop, show i * 2 + (rs.length - i) * 2 = rs.length * 2 by omega]
  have hcp1 := run_copy_runs (W := w.drew) 3 g ((i + 1) * 2) (rs.length + 1 - (i + 1)) (cap - (i + 1)) g (i * 2) (rs.length + 1 - i) (cap - i) (rs.length - i) (cellsOf (rs.drop i)) (show w.drew.heap[g]? = _ from hh) (show w.drew.heap[g]? = _ from hh) (by simp only [Nat.min_def]; split <;> omega) (by rw [cellsOf_length, List.length_drop]) htkd (by rw [hcs]; omega) (cellsOf_one_cell _)
  obtain ⟨W1, hW1⟩ : ∃ W1, W1 = w.drew.setCells g ((i + 1) * 2) (cellsOf (rs.drop i)) := ⟨_, rfl⟩
  rw [← hW1, Nat.add_sub_add_right] at hcp1
  obtain ⟨cur1, b1, s1, l1⟩ := setCells_row (cellsOf (rs.drop i)) ((i + 1) * 2) w.drew cur hh (by rw [cellsOf_length, List.length_drop, hcs]; omega)
  rw [← hW1] at b1
  have hv1 : W1.heap[vb]? = some (.cells #[.int .i64 x.f0, .int .i64 x.f1] 82 (0, 0)) := by rw [hW1, setCells_far _ _ vb hne]; exact hv
  have hB1 : Below base w W1 := by
    obtain ⟨q1, q2, q3, q4⟩ := setCells_same g (cellsOf (rs.drop i)) ((i + 1) * 2) w.drew
    exact (below_drew (Below.refl base w)).trans ⟨by rw [hW1]; exact q1, by rw [hW1]; exact q2, by rw [hW1]; exact q3, by rw [hW1, q4]; exact Nat.le_refl _, fun k hk => by rw [hW1]; exact setCells_far _ _ k (by omega)⟩
  have hcp2 := run_copy_runs (W := W1) 3 g (i * 2) (rs.length + 1 - i) (cap - i) vb 0 1 1 1 (cellsOf [x]) b1 hv1 (by simp only [Nat.min_def]; split <;> omega) rfl rfl (by rw [s1, hcs]; omega) (cellsOf_one_cell _)
  obtain ⟨W2, hW2⟩ : ∃ W2, W2 = W1.setCells g (i * 2) (cellsOf [x]) := ⟨_, rfl⟩
  rw [← hW2] at hcp2
  obtain ⟨cur2, b2, s2, l2⟩ := setCells_row (cellsOf [x]) (i * 2) W1 cur1 b1 (by rw [cellsOf_length, s1, hcs]; simp; omega)
  rw [← hW2] at b2
  have hB2 : Below base w W2 := by
    obtain ⟨q1, q2, q3, q4⟩ := setCells_same g (cellsOf [x]) (i * 2) W1
    exact hB1.trans ⟨by rw [hW2]; exact q1, by rw [hW2]; exact q2, by rw [hW2]; exact q3, by rw [hW2, q4]; exact Nat.le_refl _, fun k hk => by rw [hW2]; exact setCells_far _ _ k (by omega)⟩
  have hfin : cur2.toList.take ((insF rs i x).length * 2) = cellsOf (insF rs i x) := by
    have e1 : (cellsOf (rs.take i)).length = i * 2 := by rw [cellsOf_length, List.length_take]; omega
    have e2 : (cellsOf [x]).length = 2 := rfl
    have e3 : (cellsOf (rs.drop i)).length = (rs.length - i) * 2 := by rw [cellsOf_length, List.length_drop]
    have e4 : (cur.toList.take ((i + 1) * 2)).length = (i + 1) * 2 := by rw [List.length_take, Array.length_toList, hcs]; omega
    have d1 : cur1.toList.take (i * 2) = cellsOf (rs.take i) := by
      rw [l1, List.append_assoc, List.take_append_of_le_length (by rw [e4]; omega), List.take_take, Nat.min_eq_left (by omega), htki]
    have d2 : ∃ r, cur1.toList.drop ((i + 1) * 2) = cellsOf (rs.drop i) ++ r := by
      rw [l1, List.append_assoc]
      refine ⟨cur.toList.drop ((i + 1) * 2 + (cellsOf (rs.drop i)).length), ?_⟩
      rw [List.drop_append_of_le_length (by rw [e4]; omega), List.drop_of_length_le (by rw [e4]; omega), List.nil_append]
    obtain ⟨r, d2⟩ := d2
    rw [insF_length, cellsOf_insF, l2, d1, show i * 2 + (cellsOf [x]).length = (i + 1) * 2 by rw [e2]; omega, d2, ← List.append_assoc]
    rw [List.take_append_of_le_length (by rw [List.length_append, List.length_append, e1, e2, e3]; omega)]
    rw [List.take_of_length_le (by rw [List.length_append, List.length_append, e1, e2, e3]; omega)]
  have hR3 := row_of (base := base) (ok := fun _ => True) (rs := insF rs i x) b2 hbg trivial (by rw [insF_length]; exact hg) hcm (by rw [s2, s1, hcs]) hfin
  rw [insF_length] at hR3
  have HR3 := Lib.hid hR3
  have HB3 := Lib.hid hB2
  have hov : ∀ lb cb, (callFunc 104 #[.slice (some ⟨vb, 0, none⟩) 1 1, .slice (some ⟨g, (i + 1) * 2, none⟩) lb cb]).run Try.prog w = .ok (.value (.bool false)) w := fun lb cb => by
    rw [run_callFunc_extern Try.func104 (by kernel_rfl) (by kernel_rfl) (by kernel_rfl) (e := Extern.SlicesOverlaps.overlaps #[50, 50] #[4]) (by kernel_rfl),
      Lib.run_overlaps_apart w 50 4 82 Try.underlying50 2 (fun w => by obtain ⟨i0, hi0, _, hsz0, _⟩ := info_parts info82; simp [sizeOf, typeInfo, hi0, hsz0]) ⟨vb, 0, none⟩ ⟨g, (i + 1) * 2, none⟩ 1 1 lb cb hne 82 82 2 (cap * 2) (by simp [World.shape?, hv]) (by simp [World.shape?, hh, hcs]) (by omega) (blk_frozen hv _) (blk_frozen hv _)]
    rfl
  have hd2 : ¬ ((i : Int) = (rs.length : Int)) := by omega
  have hm : maxLen = 9223372036854775807 := rfl
  have hw1 : IntKind.i64.wrap ((rs.length : Int) + 1) = (rs.length : Int) + 1 := IntWalk.i64_in _ (by omega)
  have hw3 : IntKind.i64.wrap ((i : Int) + 1) = (i : Int) + 1 := IntWalk.i64_in _ (by omega)
  have hb1 : (0 : Int) ≤ (i : Int) + 1 := by omega
  have hb2 : (0 : Int) ≤ (rs.length : Int) + 1 := by omega
  have htn : ((i : Int) + 1).toNat = i + 1 := by omega
  have htn2 : ((rs.length : Int) + 1).toNat = rs.length + 1 := by omega
  have hk8 : (i : Int) + 1 ≤ (rs.length : Int) + 1 := by omega
  have hk9 : (i : Int) + 1 ≤ ((rs.length + 1 : Nat) : Int) := by omega
  have hd3 : decide ((rs.length : Int) + 1 > (cap : Int)) = false := decide_eq_false (by omega)
  have hd4 : (rs.length : Int) + 1 ≤ (cap : Int) := by omega
  have hk1 : ¬ cap = i := by omega
  have hk2 : ¬ cap = i + 1 := by omega
  have hk4 : (i : Int) ≤ (rs.length : Int) := by omega
  have hk6 : (i : Int) ≤ (rs.length : Int) + 1 := by omega
  clear hh hv hr hv1 b1 b2 hB1 hB2 hR3 l1 l2 s1 s2 hfin htki htkd htk hcs hW1 hW2
  go_enter Try.func97, Try.ntmps97
  go_wp2_with (simp only [hov])
  go_still_tail 8, (by kernel_rfl)
  change wpList _ _ _ _ _ w.drew
  go_wp2_with (first
    | ((with_reducible refine gate_builtin (b := .copy) (xs := #[.tmp 73, .tmp 76]) rfl ?_); at_builtin; refine wpList_copy_runI _ rfl _ _ 50 50 rfl _ _ rfl rfl hcp1 ?_)
    | ((with_reducible refine gate_builtin (b := .copy) (xs := #[.tmp 80, .tmp 81]) rfl ?_); at_builtin; refine wpList_copy_runI _ rfl _ _ 50 50 rfl _ _ rfl rfl hcp2 ?_))
  go_ret
  exact ⟨_, rfl, HR3.out, HB3.out⟩

/-- slices.Insert of one run, at any place. -/
theorem insert_is (g n cap base vb i : Nat) (rs : List Rn) (x : Rn) (w : World) (hr : Kd.R k82 82 w base (fun _ => True) (.slice (some ⟨g, 0, none⟩) n cap) rs) (hv : w.heap[vb]? = some (.cells #[.int .i64 x.f0, .int .i64 x.f1] 82 (0, 0))) (hne : vb ≠ g)
    (hb : base ≤ w.heap.size) (hi : i ≤ rs.length) (hl : (rs.length + 1) * 16 ≤ 140737488355328) :
    Calls Try.prog 97 #[.slice (some ⟨g, 0, none⟩) n cap, .int .i64 (i : Int), .slice (some ⟨vb, 0, none⟩) 1 1] w fun e w' => ∃ v, e = .returned v ∧ Kd.R k82 82 w' base (fun _ => True) v (insF rs i x) ∧ Below base w w' := by
  rcases Nat.lt_or_ge i rs.length with h | h
  · rcases Nat.lt_or_ge cap (rs.length + 1) with h2 | h2
    · exact insert_grow g n cap base vb i rs x w hr hv hb h h2 hl
    · exact insert_shift g n cap base vb i rs x w hr hv hne hb h h2 hl
  · obtain rfl : i = rs.length := by omega
    exact insert_end g n cap base vb rs x w hr hv hb hl
end Go.Proofs.Ytbacdpagpdmkoaa.Man

/- profile.weightMay, tidy, slices.Clone, profile.parted: what they answer, and that the calls answer so. -/
namespace Go.Proofs.Ytbacdpagpdmkoaa.Man
open Go.RowKit Go.Proofs.Ytbacdpagpdmkoaa.QT Go.Proofs.YtbacdpagpdmkoaaW.PrintWords Go.Proofs.YtbacdpagpdmkoaaW.PrintLast Go.Proofs.YtbacdpagpdmkoaaW.PrintMore

def wmayF (a b l : Int) : Bool := mayF a b && rateF l
set_option maxHeartbeats 4000000 in
set_option maxRecDepth 100000 in
theorem wmay_is (a b l : Int) (w : World) : Calls Try.prog 59 #[.agg #[.int .i64 a, .int .i64 b, .int .i64 l]] w fun e w' => e = .returned (.bool (wmayF a b l)) ∧ Below w.heap.size w w' := by
  unfold wmayF
  cases h0 : mayF a b
  · have H0 := Lib.hid h0
    clear h0
    go_enter Try.func59, Try.ntmps59
    go_wp2_with fail
    refine (may_is a b _).mono ?_
    rintro e w1 ⟨rfl, hb1⟩
    have HB1 := Lib.hid (below_then ((Below.refl w.heap.size w).alloc (Nat.le_refl _) (.cells #[.int .i64 a, .int .i64 b, .int .i64 l] 73)) (by simp) hb1)
    clear hb1
    rw [H0.out]
    go_wp2
    exact bodyPost_ret (v := .bool false) (by simp [results, Try.results59, go_sem]) rfl ⟨rfl, HB1.out⟩
  · have H0 := Lib.hid h0
    clear h0
    go_enter Try.func59, Try.ntmps59
    go_wp2_with fail
    refine (may_is a b _).mono ?_
    rintro e w1 ⟨rfl, hb1⟩
    have HB1 := Lib.hid (below_then ((Below.refl w.heap.size w).alloc (Nat.le_refl _) (.cells #[.int .i64 a, .int .i64 b, .int .i64 l] 73)) (by simp) hb1)
    have hx := blk_below (blk_new w (.cells #[.int .i64 a, .int .i64 b, .int .i64 l] 73 (0, 0))) hb1
    have c2 := blk_cell hx 2
    simp at c2
    clear hb1 hx
    rw [H0.out]
    go_wp2_with fail
    refine (rate_is l _).mono ?_
    rintro e w2 ⟨rfl, rfl⟩
    go_wp2
    exact bodyPost_ret (v := .bool (rateF l)) (by simp [results, Try.results59, go_sem]) rfl ⟨by simp, HB1.out⟩

/-- A row that its maker has clipped. -/
def Mine (w : World) (base : Nat) (v : Value) (rs : List Rn) : Prop := ∃ g n cap, v = .slice (some ⟨g, 0, none⟩) n n ∧ Kd.R k82 82 w base (fun _ => True) (.slice (some ⟨g, 0, none⟩) n cap) rs
theorem Mine.reads {w : World} {base : Nat} {v : Value} {rs : List Rn} (h : Mine w base v rs) : ∃ A, v = .slice A rs.length rs.length ∧ Kd.C k82 w A rs.length rs := by
  obtain ⟨g, n, cap, rfl, hR⟩ := h
  obtain ⟨A, c, e, _, hC⟩ := Kd.R_reads hR
  injection e with e1 e2 e3
  subst e1 e2
  exact ⟨_, rfl, hC⟩
theorem Mine.below {w w' : World} {base : Nat} {v : Value} {rs : List Rn} (h : Mine w base v rs) (hb : Below w.heap.size w w') : Mine w' base v rs := by
  obtain ⟨g, n, cap, e, hR⟩ := h
  exact ⟨g, n, cap, e, Kd.R_below hR hb⟩
theorem Mine.lower {w : World} {base b : Nat} {v : Value} {rs : List Rn} (h : Mine w base v rs) (hb : b ≤ base) : Mine w b v rs := by
  obtain ⟨g, n, cap, e, hR⟩ := h
  exact ⟨g, n, cap, e, Kd.R_lower hR hb⟩

set_option maxHeartbeats 4000000 in
set_option maxRecDepth 100000 in
theorem tidy_is (g n cap base : Nat) (rs : List Rn) (w : World) (hr : Kd.R k82 82 w base (fun _ => True) (.slice (some ⟨g, 0, none⟩) n cap) rs) (hb : base ≤ w.heap.size) (hl : rs.length ≤ 281474976710656) :
    Calls Try.prog 61 #[.slice (some ⟨g, 0, none⟩) n cap] w fun e w' => ∃ v, e = .returned v ∧ Mine w' base v (tidyF rs) ∧ Below base w w' := by
  have H := Lib.hid (compact_is g n cap base (fun _ => True) rs w hr hb hl)
  have HL : Hid ((tidyF rs).length ≤ 281474976710656) := Lib.hid (Nat.le_trans (tidyF_length rs) hl)
  clear hr
  go_enter Try.func61, Try.ntmps61
  go_wp2_with fail
  refine H.out.mono ?_
  rintro e w1 ⟨m, rfl, hr1, hb1⟩
  obtain ⟨A_, c_, e_, hmc, hC⟩ := Kd.R_reads hr1
  injection e_ with e1 e2 e3
  subst e2 e3
  have HR1 := Lib.hid hr1
  have HB1 := Lib.hid hb1
  have HM := Lib.hid hmc
  clear hr1 hb1 hC hmc e1
  go_wp2_with fail
  refine (clip_is g 0 _ _ _ HM.out HL.out).mono ?_
  rintro e w2 ⟨rfl, rfl⟩
  go_wp2
  go_ret
  exact ⟨_, rfl, ⟨g, _, _, rfl, HR1.out⟩, HB1.out⟩

set_option maxHeartbeats 4000000 in
set_option maxRecDepth 100000 in
theorem clone_is (A : Option Addr) (c : Nat) (rs : List Rn) (w : World) (hr : Kd.C k82 w A rs.length rs) (hne : 0 < rs.length) (hl : rs.length * 16 ≤ 140737488355328) :
    Calls Try.prog 84 #[.slice A rs.length c] w fun e w' => ∃ g cap, e = .returned (.slice (some ⟨g, 0, none⟩) rs.length cap) ∧ Kd.R k82 82 w' w.heap.size (fun _ => True) (.slice (some ⟨g, 0, none⟩) rs.length cap) rs ∧ Below w.heap.size w w' := by
  obtain ⟨ad, rfl, _⟩ := at_T82 hr 0 (by omega) (by omega)
  have HL0 : Hid (Kd.R k82 82 (w.alloc (.cells #[] 82)) w.heap.size (fun _ => True) (.slice (some ⟨w.heap.size, 0, none⟩) 0 0) []) := by
    refine Lib.hid ⟨fun _ _ => trivial, [], ?_, Reps.none _ _⟩
    exact World.ownsRow_lit (base := w.heap.size) (e := 82) (size := 2) w #[] 0 (Nat.le_refl _) (by decide) (by simp)
  have HB0 : Hid (Below w.heap.size w (w.alloc (.cells #[] 82))) := Lib.hid ((Below.refl w.heap.size w).alloc (Nat.le_refl _) _)
  have HC : Hid (Kd.C k82 (w.alloc (.cells #[] 82)) (some ad) rs.length rs) := Lib.hid (Kd.C_below hr HB0.out)
  have HN := Lib.hid hne
  have hnil : ∀ W, (binOp .eql 50 (.slice (some ad) rs.length c) (.slice none 0 0)).run Try.prog W = .ok (.bool false) W := fun W => Lib.run_eql_slice_nil (P := Try.prog) W 50 82 (some ad) rs.length c 0 0 Try.underlying50
  have HLL : Hid ((([] : List Rn).length + rs.length) * 16 ≤ 140737488355328) := Lib.hid (by simp; omega)
  clear hr hne
  go_enter Try.func84, Try.ntmps84
  go_wp2_with (first | ((with_reducible refine gate_builtin (b := .append) (xs := #[.tmp 5, .tmp 6]) rfl ?_); at_builtin; refine Kd.R_append_rows k82 (Rr := k82.K (w.alloc (.cells #[] 82))) (w0 := w) w.heap.size rfl (.tmp 5) (.tmp 6) 50 82 (.agg #[.int .i64 0, .int .i64 0]) 16 rfl Try.underlying50 info82 rfl (by decide) (by omega) (.slice (some ⟨w.heap.size, 0, none⟩) 0 0) [] rs (some ad) rs.length c (fun _ => True) (fun _ => False) rfl rfl ?aO ?aR ?aM (fun _ h => h.elim) ?aF ?aB ?aS ?aL ?_; (case aO => exact HL0.out); (case aR => exact HC.out); (case aM => (intro y cs hy; obtain rfl := k82_open hy; exact k82_mkM _ _ _ y)); (case aF => exact (fun _ _ => trivial)); (case aB => exact HB0.out); (case aS => exact HB0.out.size); (case aL => exact HLL.out); intro v1 w1 ho1 hb1 hg1 hat1; simp only [List.nil_append] at ho1; have HO1 := Lib.hid ho1; have HB1 := Lib.hid hb1; obtain ⟨A1_, k1_, rfl⟩ := Kd.R_slice ho1; clear ho1 hb1 hg1 hat1))
  have h1 := HO1.out
  have hne := HN.out
  obtain ⟨_, inner, ho, _⟩ := h1
  rcases ho.2 with ⟨hv, h0⟩ | ⟨g, cap, cur, hv, _⟩
  · exact absurd h0 (by omega)
  injection hv with e1 _ e3
  subst e1 e3
  go_ret
  exact ⟨g, k1_, rfl, HO1.out, HB1.out⟩

/-- The runs with one that begins at an instant: K' + 1 begin at it or ahead of it. -/
def partF (rs : List Rn) (K' : Nat) (at_ : Int) : List Rn := if 4096 ≤ at_ ∨ (rd_T82 rs (K' : Int)).f0 = at_ then rs else insF rs (K' + 1) ⟨at_, (rd_T82 rs (K' : Int)).f1⟩
set_option maxHeartbeats 4000000 in
set_option maxRecDepth 100000 in
theorem parted_is (g n cap base K' : Nat) (rs : List Rn) (at_ : Int) (w : World) (hr : Kd.R k82 82 w base (fun _ => True) (.slice (some ⟨g, 0, none⟩) n cap) rs) (hb : base ≤ w.heap.size) (hl : (rs.length + 1) * 16 ≤ 140737488355328) (hK : Parts rs at_ (K' + 1)) :
    Calls Try.prog 83 #[.slice (some ⟨g, 0, none⟩) n cap, .int .i64 at_] w fun e w' => ∃ v, e = .returned v ∧ Kd.R k82 82 w' base (fun _ => True) v (partF rs K' at_) ∧ Below base w w' := by
  obtain ⟨A_, c_, e_, hcap, hC⟩ := Kd.R_reads hr
  injection e_ with e1 e2 e3
  subst e1 e2 e3
  have hKl : K' + 1 ≤ rs.length := hK.1
  have HP := Lib.hid (place_is _ cap rs at_ (K' + 1) w hC hcap (by omega) hK)
  have HR := Lib.hid hr
  clear hr hK hC
  have hKc : ((K' + 1 : Nat) : Int) - 1 = (K' : Int) := by omega
  go_enter Try.func83, Try.ntmps83
  go_wp2_with fail
  refine HP.out.mono ?_
  rintro e w1 ⟨rfl, hb1⟩
  rw [hKc]
  have HB1 : Hid (Below base w w1) := Lib.hid (hb1.mono hb)
  have HR1 := Lib.hid (Kd.R_below HR.out hb1)
  clear hb1 HR HP hKc
  obtain ⟨A_, c_, e_, _, hC⟩ := Kd.R_reads HR1.out
  injection e_ with e1 e2 e3
  subst e1 e3
  clear e2
  obtain ⟨ad, e1, x0, x1⟩ := at_T82 hC (K' : Int) (by omega) (by omega)
  injection e1 with e1
  subst e1
  rw [Int.toNat_natCast, add_plain] at x0 x1
  have HPF : Hid (partF rs K' at_ = if 4096 ≤ at_ ∨ (rd_T82 rs (K' : Int)).f0 = at_ then rs else insF rs (K' + 1) ⟨at_, (rd_T82 rs (K' : Int)).f1⟩) := Lib.hid rfl
  generalize rd_T82 rs (K' : Int) = x at x0 x1 HPF
  clear hC
  have h0 : (0 : Int) ≤ (K' : Int) := by omega
  have h1 : (K' : Int) < (rs.length : Int) := by omega
  by_cases h4 : 4096 ≤ at_
  · have hd : decide (at_ ≥ 4096) = true := by simpa using h4
    have HF : Hid (partF rs K' at_ = rs) := Lib.hid (by rw [HPF.out, if_pos (Or.inl h4)])
    clear h4
    go_wp2
    exact bodyPost_ret (v := .slice (some ⟨g, 0, none⟩) rs.length cap) (by simp [results, Try.results83, go_sem]) rfl ⟨_, rfl, by rw [HF.out]; exact HR1.out, HB1.out⟩
  · have hd : decide (at_ ≥ 4096) = false := by simpa using h4
    by_cases h5 : x.f0 = at_
    · have hd5 : (x.f0 == at_) = true := by simpa using h5
      have HF : Hid (partF rs K' at_ = rs) := Lib.hid (by rw [HPF.out, if_pos (Or.inr h5)])
      clear h4 h5
      go_wp2
      exact bodyPost_ret (v := .slice (some ⟨g, 0, none⟩) rs.length cap) (by simp [results, Try.results83, go_sem]) rfl ⟨_, rfl, by rw [HF.out]; exact HR1.out, HB1.out⟩
    · have hd5 : (x.f0 == at_) = false := by simpa using h5
      have HF : Hid (partF rs K' at_ = insF rs (K' + 1) ⟨at_, x.f1⟩) := Lib.hid (by rw [HPF.out, if_neg (by intro h; rcases h with h | h; exact h4 h; exact h5 h)])
      have hg : g < w1.heap.size := by
        obtain ⟨cur, hh, _⟩ := row_to HR1.out
        exact blk_lt hh
      have hw : IntKind.i64.wrap ((K' : Int) + 1) = (K' : Int) + 1 := IntWalk.i64_in _ (by omega)
      have HBA : Hid (Below base w (w1.alloc (.cells #[.int .i64 at_, .int .i64 x.f1] 82))) := Lib.hid (HB1.out.alloc (by have := HB1.out.size; omega) _)
      have HRA : Hid (Kd.R k82 82 (w1.alloc (.cells #[.int .i64 at_, .int .i64 x.f1] 82)) base (fun _ => True) (.slice (some ⟨g, 0, none⟩) rs.length cap) rs) := Lib.hid (Kd.R_below HR1.out ((Below.refl _ _).alloc (Nat.le_refl _) _))
      have HI := Lib.hid (insert_is g rs.length cap base w1.heap.size (K' + 1) rs ⟨at_, x.f1⟩ (w1.alloc (.cells #[.int .i64 at_, .int .i64 x.f1] 82)) HRA.out (blk_new _ _) (by omega) (by have := HBA.out.size; omega) hKl hl)
      rw [show ((K' + 1 : Nat) : Int) = (K' : Int) + 1 by omega] at HI
      clear h4 h5 HR1 HB1 HPF HRA
      go_wp2_with fail
      refine HI.out.mono ?_
      rintro e w2 ⟨v2, rfl, hr2, hb2⟩
      have HR2 := Lib.hid hr2
      have HB2 := Lib.hid (HBA.out.trans hb2)
      clear hr2 hb2
      go_wp2
      exact bodyPost_ret (v := v2) (by simp [results, Try.results83, go_sem]) rfl ⟨_, rfl, by rw [HF.out]; exact HR2.out, HB2.out⟩
end Go.Proofs.Ytbacdpagpdmkoaa.Man

/- Profiles turned, in plain words; the two turns (Add$1, Take$1) at a call. -/
namespace Go.Proofs.Ytbacdpagpdmkoaa.Man
open Go.RowKit Go.Proofs.Ytbacdpagpdmkoaa.QT Go.Proofs.YtbacdpagpdmkoaaW.PrintWords Go.Proofs.YtbacdpagpdmkoaaW.PrintLast Go.Proofs.YtbacdpagpdmkoaaW.PrintMore

theorem rise_lt {rs : List Rn} (h : Rise rs) (i j : Nat) (hj : j < rs.length) (hij : i < j) : (rs[i]'(by omega)).f0 < rs[j].f0 := List.pairwise_iff_getElem.1 h i j (by omega) hj hij
theorem part_rise (rs : List Rn) (t : Int) (K' : Nat) (h : Rise rs) (hK : Parts rs t (K' + 1)) : Rise (partF rs K' t) := by
  unfold partF
  split
  · exact h
  · rename_i hn
    have hl := hK.1
    have hk : rs[K'].f0 < t := by
      have h1 := hK.2.1 K' (by omega) (by omega)
      rw [rdR_at rs K' (by omega)] at hn
      rcases Int.lt_or_eq_of_le h1 with h | h
      · exact h
      · exact absurd (Or.inr h) hn
    unfold insF
    refine List.pairwise_append.2 ⟨h.sublist (List.take_sublist _ _), List.pairwise_cons.2 ⟨fun b hb => ?_, h.sublist (List.drop_sublist _ _)⟩, fun a ha b hb => ?_⟩
    · obtain ⟨j, hj, rfl⟩ := List.mem_iff_getElem.1 hb
      rw [List.getElem_drop]
      exact hK.2.2 _ _ (by omega)
    · obtain ⟨i, hi, rfl⟩ := List.mem_iff_getElem.1 ha
      rw [List.getElem_take]
      have hi' : i < K' + 1 := by rw [List.length_take] at hi; omega
      have hle : (rs[i]'(by omega)).f0 ≤ rs[K'].f0 := by
        rcases Nat.lt_or_ge i K' with h1 | h1
        · exact Int.le_of_lt (rise_lt h i K' (by omega) h1)
        · obtain rfl : i = K' := by omega
          exact Int.le_refl _
      rcases List.mem_cons.1 hb with rfl | hb
      · show (rs[i]'(by omega)).f0 < t; omega
      · obtain ⟨j, hj, rfl⟩ := List.mem_iff_getElem.1 hb
        rw [List.getElem_drop]
        have := hK.2.2 (K' + 1 + j) (by rw [List.length_drop] at hj; omega) (by omega)
        omega
theorem part_head (rs : List Rn) (t : Int) (K' : Nat) (h : 0 < rs.length) : (partF rs K' t).head? = rs.head? := by
  unfold partF
  split
  · rfl
  · unfold insF
    cases rs with
    | nil => simp at h
    | cons x r => rfl
theorem part_length (rs : List Rn) (t : Int) (K' : Nat) : rs.length ≤ (partF rs K' t).length ∧ (partF rs K' t).length ≤ rs.length + 1 := by
  unfold partF
  split
  · omega
  · rw [insF_length]; omega
theorem part_rates (rs : List Rn) (t : Int) (K' : Nat) (hK : K' < rs.length) (h : ∀ x ∈ rs, rateF x.f1 = true) : ∀ x ∈ partF rs K' t, rateF x.f1 = true := by
  unfold partF
  split
  · exact h
  · intro x hx
    unfold insF at hx
    rcases List.mem_append.1 hx with hx | hx
    · exact h x (List.mem_of_mem_take hx)
    · rcases List.mem_cons.1 hx with rfl | hx
      · show rateF (rd_T82 rs (K' : Int)).f1 = true
        rw [rdR_at rs K' hK]
        exact h _ (List.getElem_mem hK)
      · exact h x (List.mem_of_mem_drop hx)
theorem cnt_head {rs : List Rn} {t : Int} {x : Rn} (h : rs.head? = some x) (ht : x.f0 ≤ t) : 0 < cnt rs t := by
  cases rs with
  | nil => simp at h
  | cons y r =>
    simp only [List.head?_cons, Option.some.injEq] at h
    subst h
    unfold cnt
    rw [List.takeWhile_cons_of_pos (by simpa using ht)]
    simp
def partT (rs : List Rn) (t : Int) : List Rn := partF rs (cnt rs t - 1) t
theorem may_head {rs : List Rn} (h : mayR rs = true) : ∃ x, rs.head? = some x ∧ x.f0 = 0 := by
  cases rs with
  | nil => simp [mayR] at h
  | cons x r =>
    unfold mayR at h
    simp only [Bool.and_eq_true, beq_iff_eq] at h
    exact ⟨x, rfl, h.1⟩
theorem may_rates {rs : List Rn} (h : mayR rs = true) : ∀ x ∈ rs, x.f0 < 4096 ∧ rateF x.f1 = true := (ok_rise rs none (may_ok h)).2.2

theorem may_short {rs : List Rn} (h : mayR rs = true) : rs.length ≤ 4096 := by
  obtain ⟨x, hx, h0⟩ := may_head h
  have hr := may_rise h
  have key : ∀ (i : Nat) (hi : i < rs.length), (i : Int) ≤ rs[i].f0 := by
    intro i
    induction i with
    | zero =>
      intro hi
      cases rs with
      | nil => simp at hi
      | cons y r =>
        simp only [List.head?_cons, Option.some.injEq] at hx
        subst hx
        simp [h0]
    | succ i ih =>
      intro hi
      have h1 := ih (by omega)
      have h2 := rise_lt hr i (i + 1) hi (by omega)
      omega
  rcases Nat.lt_or_ge 4096 rs.length with h1 | h1
  · have h2 := key 4096 h1
    have h3 := (may_rates h rs[4096] (List.getElem_mem h1)).1
    omega
  · exact h1
def turnL (a b : Int) (turn : Int → Int × Bool) : List Rn → Option (List Rn)
  | [] => some []
  | x :: r => if hasF a b x.f0 = true then (if (turn x.f1).2 = true then (turnL a b turn r).map (⟨x.f0, (turn x.f1).1⟩ :: ·) else none) else (turnL a b turn r).map (x :: ·)
def turnO (o : Option (List Rn)) (refused : Int) : List Rn × Int := match o with | some out => (tidyF out, 0) | none => ([], refused)
def turnR (rs : List Rn) (a b l refused : Int) (turn : Int → Int × Bool) : List Rn × Int :=
  if mayR rs = true ∧ wmayF a b l = true then turnO (turnL a b turn (partT (partT rs a) b)) refused else ([], 1800)
def addT (l load : Int) : Int × Bool := sumR 0 [load, l]
def takeT (l load : Int) : Int × Bool := (load - l, decide (l ≤ load))

/-- What Build, Add, Take hand back. -/
def Res (w : World) (base : Nat) (v : Value) (rs : List Rn) : Prop := (v = .slice none 0 0 ∧ rs = []) ∨ Mine w base v rs
theorem Res.reads {w : World} {base : Nat} {v : Value} {rs : List Rn} (h : Res w base v rs) : ∃ A, v = .slice A rs.length rs.length ∧ Kd.C k82 w A rs.length rs := by
  rcases h with ⟨rfl, rfl⟩ | h
  · obtain ⟨A, c, e, _, hC⟩ := Kd.R_reads (Kd.R_nil k82 0 w 0 (fun _ => True))
    injection e with e1 _ e3
    subst e1 e3
    exact ⟨_, rfl, hC⟩
  · exact h.reads
theorem Res.below {w w' : World} {base : Nat} {v : Value} {rs : List Rn} (h : Res w base v rs) (hb : Below w.heap.size w w') : Res w' base v rs := h.imp id (fun h => h.below hb)
theorem Res.lower {w : World} {base b : Nat} {v : Value} {rs : List Rn} (h : Res w base v rs) (hb : b ≤ base) : Res w b v rs := h.imp id (fun h => h.lower hb)

/-- A box that holds a weight. -/
def Box (w : World) (p : Nat) (a b l : Int) : Prop := w.heap[p]? = some (.cells #[.int .i64 a, .int .i64 b, .int .i64 l] 73 (0, 0))

set_option maxHeartbeats 4000000 in
set_option maxRecDepth 100000 in
theorem add1_is (p : Nat) (a b l load : Int) (w : World) (hp : Box w p a b l) : Calls Try.prog 67 #[.int .i64 load, .pointer (some ⟨p, 0, none⟩)] w fun e w' => e = .returned (.tuple #[.int .i64 (addT l load).1, .bool (addT l load).2]) ∧ Below w.heap.size w w' := by
  unfold addT
  have c2 := blk_cell hp 2
  simp at c2
  have hC := lit2_C w load l
  have HS := Lib.hid (sum_is (some ⟨w.heap.size, 0, none⟩) 2 [load, l] _ hC (Nat.le_refl _) (by simp))
  generalize sumR 0 [load, l] = r at HS ⊢
  clear hp hC
  go_enter Try.func67, Try.ntmps67
  go_wp2_with fail
  refine HS.out.mono ?_
  rintro e w1 ⟨rfl, rfl⟩
  go_wp2
  exact bodyPost_ret (v := .tuple #[.int .i64 r.1, .bool r.2]) (by simp [results, Try.results67, go_sem]) rfl ⟨rfl, (Below.refl _ _).alloc (Nat.le_refl _) _⟩
set_option maxHeartbeats 4000000 in
set_option maxRecDepth 100000 in
theorem take1_is (p : Nat) (a b l load : Int) (w : World) (hp : Box w p a b l) (h1 : rateF load = true) (h2 : rateF l = true) : Calls Try.prog 70 #[.int .i64 load, .pointer (some ⟨p, 0, none⟩)] w fun e w' => e = .returned (.tuple #[.int .i64 (takeT l load).1, .bool (takeT l load).2]) ∧ Below w.heap.size w w' := by
  have c2 := blk_cell hp 2
  simp at c2
  have g1 : 0 ≤ load ∧ load ≤ 4611686018427387904 := by unfold rateF at h1; simpa using h1
  have g2 : 0 ≤ l ∧ l ≤ 4611686018427387904 := by unfold rateF at h2; simpa using h2
  have hw : IntKind.i64.wrap (load - l) = load - l := IntWalk.i64_in _ (by omega)
  have HT : Hid (takeT l load = (load - l, decide (load ≥ l))) := Lib.hid rfl
  obtain ⟨ok, hok⟩ : ∃ ok, decide (load ≥ l) = ok := ⟨_, rfl⟩
  rw [hok] at HT
  rw [HT.out]
  clear hp HT h1 h2 g1 g2
  go_enter Try.func70, Try.ntmps70
  go_wp2_with fail
  go_quiet (fail)
  go_wp2
  exact bodyPost_ret (v := .tuple #[.int .i64 (load - l), .bool ok]) (by simp [results, Try.results70, go_sem, hok]) rfl ⟨rfl, pw_below_drewN (Below.refl _ _) _⟩
end Go.Proofs.Ytbacdpagpdmkoaa.Man

/- profile.turned with either turn, profile.Add, profile.Take: what they answer, and that the calls answer so. -/
namespace Go.Proofs.Ytbacdpagpdmkoaa.Man
open Go.RowKit Go.Proofs.Ytbacdpagpdmkoaa.QT Go.Proofs.YtbacdpagpdmkoaaW.PrintWords Go.Proofs.YtbacdpagpdmkoaaW.PrintLast Go.Proofs.YtbacdpagpdmkoaaW.PrintMore

/-- k rounds are done: what is left to do, and what is done. -/
def TurnAt (w : World) (B g n cap : Nat) (a b : Int) (turn : Int → Int × Bool) (outs : List Rn) (i : Value) (w' : World) : Prop := ∃ (k : Nat) (ys : List Rn), i = .int .i64 (k : Int) ∧ k ≤ outs.length ∧ ys.length = outs.length ∧ ys.drop k = outs.drop k ∧
  turnL a b turn outs = (turnL a b turn (outs.drop k)).map (ys.take k ++ ·) ∧ Below B w w' ∧ Kd.R k82 82 w' B (fun _ => True) (.slice (some ⟨g, 0, none⟩) n cap) ys
theorem turn_step {a b : Int} {turn : Int → Int × Bool} {outs ys : List Rn} {k : Nat} {x x' : Rn} (hk : k < ys.length) (h : turnL a b turn outs = (turnL a b turn (outs.drop k)).map (ys.take k ++ ·)) (hd : outs.drop k = x :: outs.drop (k + 1))
    (hx : turnL a b turn (x :: outs.drop (k + 1)) = (turnL a b turn (outs.drop (k + 1))).map (x' :: ·)) : turnL a b turn outs = (turnL a b turn (outs.drop (k + 1))).map ((ys.set k x').take (k + 1) ++ ·) := by
  have e : (ys.set k x').take (k + 1) = ys.take k ++ [x'] := by
    rw [List.take_succ_eq_append_getElem (by rw [List.length_set]; exact hk), List.getElem_set_self, List.take_set_of_le (Nat.le_refl _)]
  rw [h, hd, hx, e, Option.map_map]
  congr 1
  funext r
  simp
theorem row_some {e base n cap : Nat} {ok : Nat → Prop} {W : World} {rs : List Rn} {v : Value} (h : Kd.R k82 e W base ok v rs) (hn : 0 < rs.length) : ∃ g cap, v = .slice (some ⟨g, 0, none⟩) rs.length cap := by
  obtain ⟨_, inner, ho, _⟩ := h
  rcases ho.2 with ⟨_, h0⟩ | ⟨g, cap, cur, hv, _⟩
  · omega
  · exact ⟨g, cap, hv⟩

set_option maxHeartbeats 8000000 in
set_option maxRecDepth 100000 in
theorem turned_add (A : Option Addr) (c : Nat) (rs : List Rn) (a b l refused : Int) (p : Nat) (turn : Int → Int × Bool) (w : World) (hr : Kd.C k82 w A rs.length rs) (hc : rs.length ≤ c) (hl : rs.length ≤ 281474976710656) (hp : Box w p a b l)
    (HT : ∀ load W, rateF l = true → rateF load = true → Box W p a b l → Calls Try.prog 67 #[.int .i64 load, .pointer (some ⟨p, 0, none⟩)] W fun e w' => e = .returned (.tuple #[.int .i64 (turn load).1, .bool (turn load).2]) ∧ Below W.heap.size W w') :
    Calls Try.prog 66 #[.slice A rs.length c, .agg #[.int .i64 a, .int .i64 b, .int .i64 l], .int .i64 refused, .func (.func 67) #[] #[.pointer (some ⟨p, 0, none⟩)]] w fun e w' => ∃ v, e = .returned (.tuple #[v, .int .i64 (turnR rs a b l refused turn).2]) ∧ Res w' w.heap.size v (turnR rs a b l refused turn).1 ∧ Below w.heap.size w w' := by
  have HR := Lib.hid hr
  have HTT := Lib.hid HT
  have hpl : p < w.heap.size := blk_lt hp
  have HPX : Hid (Box (w.alloc (.cells #[.int .i64 a, .int .i64 b, .int .i64 l] 73)) p a b l) := Lib.hid (blk_alloc hp _)
  have HB0 : Hid (Below w.heap.size w (w.alloc (.cells #[.int .i64 a, .int .i64 b, .int .i64 l] 73))) := Lib.hid ((Below.refl _ _).alloc (Nat.le_refl _) _)
  have HBX : Hid (Box (w.alloc (.cells #[.int .i64 a, .int .i64 b, .int .i64 l] 73)) w.heap.size a b l) := Lib.hid (blk_new _ _)
  have HM := Lib.hid (pmay_is A c rs _ (Kd.C_below HR.out HB0.out) hc (by omega))
  clear hr HT hp
  obtain ⟨F, hF⟩ : ∃ F, turnR rs a b l refused turn = F := ⟨_, rfl⟩
  rw [hF]
  have HF := Lib.hid hF
  clear hF
  cases hm : mayR rs
  case false =>
    rw [hm] at HM
    obtain rfl : F = ([], 1800) := by rw [← HF.out]; unfold turnR; rw [if_neg (by simp [hm])]
    clear hm
    go_enter Try.func66, Try.ntmps66
    go_wp2_with fail
    refine HM.out.mono ?_
    rintro e w1 ⟨rfl, hb1⟩
    have HB1 := Lib.hid (below_then HB0.out HB0.out.size hb1)
    clear hb1
    go_wp2
    exact bodyPost_ret (v := .tuple #[.slice none 0 0, .int .i64 1800]) (by simp [results, Try.results66, go_sem]) rfl ⟨_, rfl, Or.inl ⟨rfl, rfl⟩, HB1.out⟩
  rw [hm] at HM
  have HMR := Lib.hid hm
  have hsh := may_short hm
  clear hm
  cases hwm : wmayF a b l
  case false =>
    obtain rfl : F = ([], 1800) := by rw [← HF.out]; unfold turnR; rw [if_neg (by simp [hwm])]
    have HW := Lib.hid hwm
    clear hwm
    go_enter Try.func66, Try.ntmps66
    go_wp2_with fail
    refine HM.out.mono ?_
    rintro e w1 ⟨rfl, hb1⟩
    have HB1 := Lib.hid (below_then HB0.out HB0.out.size hb1)
    have hx := blk_below HBX.out hb1
    have c0 := blk_cell hx 0
    have c1 := blk_cell hx 1
    have c2 := blk_cell hx 2
    simp at c0 c1 c2
    clear hb1 hx
    go_wp2_with fail
    refine (wmay_is a b l _).mono ?_
    rintro e w2 ⟨rfl, hb2⟩
    have HB2 := Lib.hid (below_then HB1.out HB1.out.size hb2)
    clear hb2
    rw [HW.out]
    go_wp2
    exact bodyPost_ret (v := .tuple #[.slice none 0 0, .int .i64 1800]) (by simp [results, Try.results66, go_sem]) rfl ⟨_, rfl, Or.inl ⟨rfl, rfl⟩, HB2.out⟩
  have HW := Lib.hid hwm
  have HRL : Hid (rateF l = true) := Lib.hid (by unfold wmayF at hwm; simp only [Bool.and_eq_true] at hwm; exact hwm.2)
  have hab : 0 ≤ a ∧ a < b ∧ b ≤ 4096 := by
    unfold wmayF at hwm
    simp only [Bool.and_eq_true] at hwm
    have := hwm.1
    unfold mayF at this
    simp only [Bool.and_eq_true, decide_eq_true_eq] at this
    omega
  clear hwm
  obtain ⟨x0, hx0, hz⟩ := may_head HMR.out
  have hn0 : 0 < rs.length := by cases rs with | nil => simp at hx0 | cons y r => simp
  have hc1 : cnt rs a - 1 + 1 = cnt rs a := by have := cnt_head hx0 (t := a) (by omega); omega
  have hP1 : Parts rs a (cnt rs a - 1 + 1) := by rw [hc1]; exact parts_cnt rs a (may_rise HMR.out)
  have hrise1 : Rise (partT rs a) := part_rise rs a _ (may_rise HMR.out) hP1
  have hh1 : (partT rs a).head? = some x0 := by unfold partT; rw [part_head _ _ _ hn0]; exact hx0
  have hlen1 := part_length rs a (cnt rs a - 1)
  have hlen1' : rs.length ≤ (partT rs a).length ∧ (partT rs a).length ≤ rs.length + 1 := hlen1
  have hc2 : cnt (partT rs a) b - 1 + 1 = cnt (partT rs a) b := by have := cnt_head hh1 (t := b) (by omega); omega
  have hP2 : Parts (partT rs a) b (cnt (partT rs a) b - 1 + 1) := by rw [hc2]; exact parts_cnt _ b hrise1
  have hlen2 : (partT rs a).length ≤ (partT (partT rs a) b).length ∧ (partT (partT rs a) b).length ≤ (partT rs a).length + 1 := part_length (partT rs a) b (cnt (partT rs a) b - 1)
  have hrate1 : ∀ x ∈ partT rs a, rateF x.f1 = true := part_rates rs a _ (by have := hP1.1; omega) (fun x hx => (may_rates HMR.out x hx).2)
  have hrate2 : ∀ x ∈ partT (partT rs a) b, rateF x.f1 = true := part_rates _ b _ (by have := hP2.1; omega) hrate1
  have HF2 : Hid (F = turnO (turnL a b turn (partT (partT rs a) b)) refused) := Lib.hid (by rw [← HF.out]; unfold turnR; rw [if_pos ⟨HMR.out, HW.out⟩])
  have HPA := Lib.hid hP1
  have HPB : Hid (Parts (partT rs a) b (cnt (partT rs a) b - 1 + 1)) := Lib.hid hP2
  have HRA := Lib.hid hrate2
  have e1 : partF rs (cnt rs a - 1) a = partT rs a := rfl
  have e2 : partF (partT rs a) (cnt (partT rs a) b - 1) b = partT (partT rs a) b := rfl
  have HE1 := Lib.hid e1
  have HE2 := Lib.hid e2
  obtain ⟨K1, hK1⟩ : ∃ K, cnt rs a - 1 = K := ⟨_, rfl⟩
  obtain ⟨K2, hK2⟩ : ∃ K, cnt (partT rs a) b - 1 = K := ⟨_, rfl⟩
  rw [hK1] at HPA HE1
  rw [hK2] at HPB HE2
  clear hP1 hP2 hrate1 hrate2 hh1 hrise1 hc1 hc2 hx0 e1 e2 hK1 hK2 hlen1 HF
  generalize partT (partT rs a) b = o2 at HF2 HRA HE2 hlen2
  generalize partT rs a = o1 at HPB HE1 HE2 hlen1' hlen2
  go_enter Try.func66, Try.ntmps66
  go_wp2_with fail
  refine HM.out.mono ?_
  rintro e w1 ⟨rfl, hb1⟩
  have HB1 := Lib.hid (below_then HB0.out HB0.out.size hb1)
  have HX1 : Hid (Box w1 w.heap.size a b l) := Lib.hid (blk_below HBX.out hb1)
  have HP1 : Hid (Box w1 p a b l) := Lib.hid (blk_below HPX.out hb1)
  have c0 := blk_cell HX1.out 0
  have c1 := blk_cell HX1.out 1
  have c2 := blk_cell HX1.out 2
  simp at c0 c1 c2
  clear hb1
  go_wp2_with fail
  refine (wmay_is a b l _).mono ?_
  rintro e w2 ⟨rfl, hb2⟩
  have HB2 := Lib.hid (below_then HB1.out HB1.out.size hb2)
  have HX2 : Hid (Box w2 w.heap.size a b l) := Lib.hid (blk_below HX1.out hb2)
  have HP2 : Hid (Box w2 p a b l) := Lib.hid (blk_below HP1.out hb2)
  clear hb2 c0 c1 c2 HX1 HP1 HB0 HBX HPX HB1
  rw [HW.out]
  have HC2 : Hid (Kd.C k82 w2.drew A rs.length rs) := Lib.hid (Kd.C_below (Kd.C_below HR.out HB2.out) (below_drew (Below.refl _ _)))
  have HCL := Lib.hid (clone_is A c rs w2.drew HC2.out hn0 (by omega))
  have c0 := blk_cell HX2.out 0
  have c1 := blk_cell HX2.out 1
  simp at c0 c1
  have hxl : w.heap.size < w2.drew.heap.size := (blk_lt HX2.out : w.heap.size < w2.heap.size)
  have c0d : w2.drew.cell? ⟨w.heap.size, 0, none⟩ = some (.int .i64 a) := c0
  have c1d : w2.drew.cell? ⟨w.heap.size, 1, none⟩ = some (.int .i64 b) := c1
  go_wp2_with fail
  go_region_held3 (fun W => W.cell? ⟨w.heap.size, 0, none⟩ = some (.int .i64 a) ∧ W.cell? ⟨w.heap.size, 1, none⟩ = some (.int .i64 b))
    (first | exact ⟨c0d, c1d⟩ | exact ⟨c05, c15⟩ | exact ⟨c04, c14⟩ | exact ⟨c03, c13⟩)
    (first
      | (go_at_call 84; refine HCL.out.mono ?_; rintro e w3 ⟨g, cap, rfl, hr3, hb3⟩; have c03 := (hb3.cell (show (⟨w.heap.size, 0, none⟩ : Addr).block < w2.drew.heap.size from hxl)).trans c0d; have c13 := (hb3.cell (show (⟨w.heap.size, 1, none⟩ : Addr).block < w2.drew.heap.size from hxl)).trans c1d; have HR3 := Lib.hid hr3; have HB3 := Lib.hid hb3; clear hr3 hb3)
      | (go_at_call 83; refine (parted_is g4 o1.length cap4 w2.drew.heap.size K2 o1 b w4 HR4.out HB4.out.size (by omega) HPB.out).mono ?_; rintro e w5 ⟨v5, rfl, hr5, hb5⟩; rw [HE2.out] at hr5; obtain ⟨g5, cap5, rfl⟩ := row_some (n := 0) (cap := 0) hr5 (by omega); have c05 := (hb5.cell (show (⟨w.heap.size, 0, none⟩ : Addr).block < w2.drew.heap.size from hxl)).trans c04; have c15 := (hb5.cell (show (⟨w.heap.size, 1, none⟩ : Addr).block < w2.drew.heap.size from hxl)).trans c14; have HR5 := Lib.hid hr5; have HB5 := Lib.hid (HB4.out.trans hb5); clear hr5 hb5)
      | (go_at_call 83; refine (parted_is g rs.length cap w2.drew.heap.size K1 rs a w3 HR3.out HB3.out.size (by omega) HPA.out).mono ?_; rintro e w4 ⟨v4, rfl, hr4, hb4⟩; rw [HE1.out] at hr4; obtain ⟨g4, cap4, rfl⟩ := row_some (n := 0) (cap := 0) hr4 (by omega); have c04 := (hb4.cell (show (⟨w.heap.size, 0, none⟩ : Addr).block < w2.drew.heap.size from hxl)).trans c03; have c14 := (hb4.cell (show (⟨w.heap.size, 1, none⟩ : Addr).block < w2.drew.heap.size from hxl)).trans c13; have HR4 := Lib.hid hr4; have HB4 := Lib.hid (HB3.out.trans hb4); clear hr4 hb4))
  clear c0d c1d c03 c13 c04 c14 c05 c15 HCL HC2 HR3 HB3 HR4 HB4 c0 c1 HM
  have HX3 : Hid (∀ W, Below w2.drew.heap.size w2.drew W → Box W p a b l ∧ Box W w.heap.size a b l) := Lib.hid (fun W hW =>
    ⟨(hW.block p (show p < w2.heap.size by have : w.heap.size < w2.heap.size := hxl; omega)).trans (show w2.drew.heap[p]? = _ from HP2.out), (hW.block w.heap.size hxl).trans (show w2.drew.heap[w.heap.size]? = _ from HX2.out)⟩)
  have HBW : Hid (Below w.heap.size w w2.drew) := Lib.hid (below_drew HB2.out)
  have HXL : Hid (w.heap.size ≤ w2.drew.heap.size) := Lib.hid HBW.out.size
  clear HX2 HP2 HB2 hxl HPA HPB HE1 HE2
  generalize w2.drew = w3 at HX3 HBW HXL HR5 HB5
  go_wp2_with fail
  go_loopw [34] (TurnAt w3 w3.heap.size g5 o2.length cap5 a b turn o2) (fun i _ => o2.length - (intOf i).toNat)
  case atStart =>
    refine ⟨0, o2, rfl, Nat.zero_le _, rfl, rfl, ?_, HB5.out, HR5.out⟩
    rw [List.drop_zero, List.take_zero]
    cases turnL a b turn o2 <;> simp
  case round =>
    obtain ⟨k, ys, rfl, hk, hyl, hyd, hyt, hB, hR⟩ := hrel
    have HBk := Lib.hid hB
    have HRk := Lib.hid hR
    have HYL := Lib.hid hyl
    have HYD := Lib.hid hyd
    have HYT := Lib.hid hyt
    clear hB hR hyl hyd hyt HB5 HR5
    by_cases hlt : k < o2.length
    · have hd : decide ((k : Int) < (o2.length : Int)) = true := by simpa using hlt
      obtain ⟨hbp, hbx⟩ := HX3.out _ HBk.out
      have c0 := blk_cell hbx 0
      have c1 := blk_cell hbx 1
      simp at c0 c1
      obtain ⟨A_, c_, e_, _, hC⟩ := Kd.R_reads HRk.out
      injection e_ with e1 e2 e3
      subst e1 e3
      clear e2
      have hky : k < ys.length := by have := HYL.out; omega
      obtain ⟨ad, e1, x0, x1⟩ := at_T82 hC (k : Int) (by omega) (by omega)
      injection e1 with e1
      subst e1
      have hxe : ys[k] = o2[k] := by
        have h := congrArg (fun l => l[0]?) HYD.out
        simp only [List.getElem?_drop, Nat.add_zero] at h
        rw [List.getElem?_eq_getElem hky, List.getElem?_eq_getElem hlt] at h
        injection h
      rw [rdR_at ys k hky, hxe, Int.toNat_natCast, add_plain] at x0 x1
      have HDR : Hid (o2.drop k = o2[k] :: o2.drop (k + 1)) := Lib.hid (List.drop_eq_getElem_cons hlt)
      have HRT : Hid (rateF o2[k].f1 = true) := Lib.hid (HRA.out _ (List.getElem_mem hlt))
      have HYS : Hid (ys.set k o2[k] = ys) := Lib.hid (by rw [← hxe]; exact List.set_getElem_self hky)
      have HDY : Hid (ys.drop (k + 1) = o2.drop (k + 1)) := Lib.hid (by
        have h := congrArg (List.drop 1) HYD.out
        rwa [List.drop_drop, List.drop_drop] at h)
      have HDS : Hid (∀ x' : Rn, (ys.set k x').drop (k + 1) = o2.drop (k + 1)) := Lib.hid (fun x' => by rw [List.drop_set_of_lt (by omega)]; exact HDY.out)
      have HKY := Lib.hid hky
      clear hxe hC hbp hbx
      generalize o2[k] = x at x0 x1 HDR HRT HYS
      have h0 : (0 : Int) ≤ (k : Int) := by omega
      have h1 : (k : Int) < (o2.length : Int) := by omega
      obtain ⟨hv, hhv⟩ : ∃ hv, hasF a b x.f0 = hv := ⟨_, rfl⟩
      have HV := Lib.hid hhv
      have HHS : Hid (∀ W, Calls Try.prog 19 #[.agg #[.int .i64 a, .int .i64 b], .int .i64 x.f0] W fun e w' => e = .returned (.bool hv) ∧ Below W.heap.size W w') := Lib.hid (fun W => by rw [← hhv]; exact has_is _ _ _ W)
      clear hhv
      go_wp2_with fail
      go_still_tail 7, (by kernel_rfl)
      change wpList _ _ _ _ _ wr.drew
      have HBd : Hid (Below w3.heap.size w3 wr.drew) := Lib.hid (below_drew HBk.out)
      have HRd : Hid (Kd.R k82 82 wr.drew w3.heap.size (fun _ => True) (.slice (some ⟨g5, 0, none⟩) o2.length cap5) ys) := Lib.hid (Kd.R_move HRk.out (fun _ _ => rfl))
      have x1d : wr.drew.cell? ⟨g5, k * 2 + 1, none⟩ = some (.int .i64 x.f1) := x1
      have x0d : wr.drew.cell? ⟨g5, k * 2, none⟩ = some (.int .i64 x.f0) := x0
      generalize wr.drew = w6 at HBd HRd x1d x0d ⊢
      clear x0 x1 c0 c1 HBk HRk
      have HX0 := Lib.hid x0d
      have HX1 := Lib.hid x1d
      clear x0d x1d
      go_wp2_with fail
      refine (HHS.out _).mono ?_
      rintro e w7 ⟨rfl, hb7⟩
      have x0 := pw_cell_below hb7 HX0.out
      have x1 := pw_cell_below hb7 HX1.out
      have HX0 := Lib.hid x0
      have HB7 := Lib.hid (below_then HBd.out HBd.out.size hb7)
      have HR7 := Lib.hid (Kd.R_below HRd.out hb7)
      clear hb7 HBd HRd x0
      cases hv with
      | false =>
        clear x1
        have HST : Hid (turnL a b turn o2 = (turnL a b turn (o2.drop (k + 1))).map (ys.take (k + 1) ++ ·)) := Lib.hid (by
          have := turn_step (x' := x) HKY.out HYT.out HDR.out (by rw [turnL, if_neg (by rw [HV.out]; decide)])
          rwa [HYS.out] at this)
        go_wp2
        go_roundw
        case rel => exact ⟨k + 1, ys, by go_num, by omega, HYL.out, HDY.out, HST.out, HB7.out, HR7.out⟩
        case measure => simp [intOf]; omega
      | true =>
        obtain ⟨tl, tok, hT⟩ : ∃ tl tok, turn x.f1 = (tl, tok) := ⟨_, _, rfl⟩
        have HTC := HTT.out x.f1 w7 HRL.out HRT.out (HX3.out _ HB7.out).1
        rw [hT] at HTC
        simp only at HTC
        have HTC := Lib.hid HTC
        have HTE := Lib.hid hT
        clear hT
        go_wp2_with fail
        refine HTC.out.mono ?_
        rintro e w8 ⟨rfl, hb8⟩
        have HB8 := Lib.hid (below_then HB7.out HB7.out.size hb8)
        have HR8 := Lib.hid (Kd.R_below HR7.out hb8)
        have HY0 := Lib.hid (pw_cell_below hb8 HX0.out)
        have HY1 := Lib.hid (pw_cell_below hb8 x1)
        clear hb8 x1 HB7 HR7 HX1
        cases tok with
        | false =>
          have HFF : Hid (F = ([], refused)) := Lib.hid (by
            rw [HF2.out, HYT.out, HDR.out, turnL, if_pos HV.out, if_neg (by rw [HTE.out]; exact Bool.false_ne_true)]
            rfl)
          go_wp2
          exact bodyPost_ret (v := .tuple #[.slice none 0 0, .int .i64 refused]) (by simp [results, Try.results66, go_sem]) rfl ⟨.slice none 0 0, by rw [HFF.out], by rw [HFF.out]; exact Or.inl ⟨rfl, rfl⟩, below_then HBW.out HBW.out.size HB8.out⟩
        | true =>
          have HST : Hid (turnL a b turn o2 = (turnL a b turn (o2.drop (k + 1))).map ((ys.set k ⟨x.f0, tl⟩).take (k + 1) ++ ·)) := Lib.hid (turn_step (x' := ⟨x.f0, tl⟩) HKY.out HYT.out HDR.out (by rw [turnL, if_pos HV.out, HTE.out, if_pos rfl]))
          have HZ : Hid (∀ (i : Nat) (u : Value), [Value.int .i64 x.f0, Value.int .i64 x.f1][i]? = some u → w8.cell? ⟨g5, ((k : Nat) : Int).toNat * 2 + i, none⟩ = some u) := Lib.hid (by
            intro i u hu
            match i, hu with
            | 0, hu => injection hu with hu; subst hu; exact HY0.out
            | 1, hu => injection hu with hu; subst hu; exact HY1.out)
          have HJL := Lib.hid h1
          go_wp2_with (first | ((with_reducible refine gate_ (.store 3 (.tmp 63) (.tmp 61)) rfl ?_); refine Kd.R_store k82 (w0 := w3) w3.heap.size rfl rfl 3 (.tmp 63) (.tmp 61) rfl 82 (g := g5) (n := o2.length) (cap := cap5) (o' := k * 2 + 1) (k : Int) 1 ys ⟨x.f0, tl⟩ (.int .i64 tl) [.int .i64 tl] [Value.int .i64 x.f0, Value.int .i64 x.f1] (fun _ => True) (fun _ => False) ?a1 ?a2 ?a3 ?a4 ?a5 ?a6 ?a7 ?a8 ?a9 ?b1 ?b2 ?b3 ?b4 ?b5 ?b6 ?_; (case a1 => rfl); (case a2 => rfl); (case a3 => rfl); (case a4 => rfl); (case a5 => rfl); (case a6 => (intro q hq; simp at hq; subst hq; rfl)); (case a7 => exact HR8.out); (case a8 => exact Int.natCast_nonneg k); (case a9 => exact HJL.out); (case b1 => rfl); (case b2 => exact HZ.out); (case b3 => exact Nat.le_refl _); (case b4 => exact k82_mkM _ _ _ ⟨x.f0, tl⟩); (case b5 => exact fun _ h => h.elim); (case b6 => exact HB8.out); intro w9 hr9 hb9 hg9; have HR9 := Lib.hid hr9; have HB9 := Lib.hid hb9; clear hr9 hb9 hg9))
          go_roundw
          case rel => exact ⟨k + 1, ys.set k ⟨x.f0, tl⟩, by go_num, by omega, by rw [List.length_set]; exact HYL.out, HDS.out _, HST.out, HB9.out, HR9.out⟩
          case measure => simp [intOf]; omega
    · have hd : decide ((k : Int) < (o2.length : Int)) = false := by simpa using hlt
      have HFF : Hid (F = (tidyF ys, 0)) := Lib.hid (by
        rw [HF2.out, HYT.out, List.drop_of_length_le (by omega), turnL, List.take_of_length_le (by have := HYL.out; omega)]
        simp [turnO])
      have HTY := Lib.hid (tidy_is g5 o2.length cap5 w3.heap.size ys wr HRk.out HBk.out.size (by have := HYL.out; omega))
      go_wp2_with fail
      refine HTY.out.mono ?_
      rintro e w4 ⟨v4, rfl, hm4, hb4⟩
      have HM4 := Lib.hid hm4
      have HB4 := Lib.hid (HBk.out.trans hb4)
      clear hm4 hb4
      go_wp2
      exact bodyPost_ret (v := .tuple #[v4, .int .i64 0]) (by simp [results, Try.results66, go_sem]) rfl ⟨v4, by rw [HFF.out], by rw [HFF.out]; exact Or.inr (HM4.out.lower HXL.out), below_then HBW.out HBW.out.size HB4.out⟩

set_option maxHeartbeats 4000000 in
set_option maxRecDepth 100000 in
theorem padd_is (A : Option Addr) (c : Nat) (rs : List Rn) (a b l : Int) (w : World) (hr : Kd.C k82 w A rs.length rs) (hc : rs.length ≤ c) (hl : rs.length ≤ 281474976710656) :
    Calls Try.prog 45 #[.slice A rs.length c, .agg #[.int .i64 a, .int .i64 b, .int .i64 l]] w fun e w' => ∃ v, e = .returned (.tuple #[v, .int .i64 (turnR rs a b l 1801 (addT l)).2]) ∧ Res w' w.heap.size v (turnR rs a b l 1801 (addT l)).1 ∧ Below w.heap.size w w' := by
  have HB0 : Hid (Below w.heap.size w (w.alloc (.cells #[.int .i64 a, .int .i64 b, .int .i64 l] 73))) := Lib.hid ((Below.refl _ _).alloc (Nat.le_refl _) _)
  have HBX : Hid (Box (w.alloc (.cells #[.int .i64 a, .int .i64 b, .int .i64 l] 73)) w.heap.size a b l) := Lib.hid (blk_new _ _)
  have HT := Lib.hid (turned_add A c rs a b l 1801 w.heap.size (addT l) _ (Kd.C_below hr HB0.out) hc hl HBX.out (fun load W _ _ hp => add1_is _ a b l load W hp))
  clear hr
  go_enter Try.func45, Try.ntmps45
  go_wp2_with fail
  refine HT.out.mono ?_
  rintro e w1 ⟨v, rfl, hm1, hb1⟩
  have HM1 := Lib.hid (hm1.lower (b := w.heap.size) HB0.out.size)
  have HB1 := Lib.hid (below_then HB0.out HB0.out.size hb1)
  clear hm1 hb1
  go_wp2
  exact bodyPost_ret (v := .tuple #[v, .int .i64 (turnR rs a b l 1801 (addT l)).2]) (by simp [results, Try.results45, go_sem]) rfl ⟨v, rfl, HM1.out, HB1.out⟩

set_option maxHeartbeats 8000000 in
set_option maxRecDepth 100000 in
theorem turned_take (A : Option Addr) (c : Nat) (rs : List Rn) (a b l refused : Int) (p : Nat) (turn : Int → Int × Bool) (w : World) (hr : Kd.C k82 w A rs.length rs) (hc : rs.length ≤ c) (hl : rs.length ≤ 281474976710656) (hp : Box w p a b l)
    (HT : ∀ load W, rateF l = true → rateF load = true → Box W p a b l → Calls Try.prog 70 #[.int .i64 load, .pointer (some ⟨p, 0, none⟩)] W fun e w' => e = .returned (.tuple #[.int .i64 (turn load).1, .bool (turn load).2]) ∧ Below W.heap.size W w') :
    Calls Try.prog 66 #[.slice A rs.length c, .agg #[.int .i64 a, .int .i64 b, .int .i64 l], .int .i64 refused, .func (.func 70) #[] #[.pointer (some ⟨p, 0, none⟩)]] w fun e w' => ∃ v, e = .returned (.tuple #[v, .int .i64 (turnR rs a b l refused turn).2]) ∧ Res w' w.heap.size v (turnR rs a b l refused turn).1 ∧ Below w.heap.size w w' := by
  have HR := Lib.hid hr
  have HTT := Lib.hid HT
  have hpl : p < w.heap.size := blk_lt hp
  have HPX : Hid (Box (w.alloc (.cells #[.int .i64 a, .int .i64 b, .int .i64 l] 73)) p a b l) := Lib.hid (blk_alloc hp _)
  have HB0 : Hid (Below w.heap.size w (w.alloc (.cells #[.int .i64 a, .int .i64 b, .int .i64 l] 73))) := Lib.hid ((Below.refl _ _).alloc (Nat.le_refl _) _)
  have HBX : Hid (Box (w.alloc (.cells #[.int .i64 a, .int .i64 b, .int .i64 l] 73)) w.heap.size a b l) := Lib.hid (blk_new _ _)
  have HM := Lib.hid (pmay_is A c rs _ (Kd.C_below HR.out HB0.out) hc (by omega))
  clear hr HT hp
  obtain ⟨F, hF⟩ : ∃ F, turnR rs a b l refused turn = F := ⟨_, rfl⟩
  rw [hF]
  have HF := Lib.hid hF
  clear hF
  cases hm : mayR rs
  case false =>
    rw [hm] at HM
    obtain rfl : F = ([], 1800) := by rw [← HF.out]; unfold turnR; rw [if_neg (by simp [hm])]
    clear hm
    go_enter Try.func66, Try.ntmps66
    go_wp2_with fail
    refine HM.out.mono ?_
    rintro e w1 ⟨rfl, hb1⟩
    have HB1 := Lib.hid (below_then HB0.out HB0.out.size hb1)
    clear hb1
    go_wp2
    exact bodyPost_ret (v := .tuple #[.slice none 0 0, .int .i64 1800]) (by simp [results, Try.results66, go_sem]) rfl ⟨_, rfl, Or.inl ⟨rfl, rfl⟩, HB1.out⟩
  rw [hm] at HM
  have HMR := Lib.hid hm
  have hsh := may_short hm
  clear hm
  cases hwm : wmayF a b l
  case false =>
    obtain rfl : F = ([], 1800) := by rw [← HF.out]; unfold turnR; rw [if_neg (by simp [hwm])]
    have HW := Lib.hid hwm
    clear hwm
    go_enter Try.func66, Try.ntmps66
    go_wp2_with fail
    refine HM.out.mono ?_
    rintro e w1 ⟨rfl, hb1⟩
    have HB1 := Lib.hid (below_then HB0.out HB0.out.size hb1)
    have hx := blk_below HBX.out hb1
    have c0 := blk_cell hx 0
    have c1 := blk_cell hx 1
    have c2 := blk_cell hx 2
    simp at c0 c1 c2
    clear hb1 hx
    go_wp2_with fail
    refine (wmay_is a b l _).mono ?_
    rintro e w2 ⟨rfl, hb2⟩
    have HB2 := Lib.hid (below_then HB1.out HB1.out.size hb2)
    clear hb2
    rw [HW.out]
    go_wp2
    exact bodyPost_ret (v := .tuple #[.slice none 0 0, .int .i64 1800]) (by simp [results, Try.results66, go_sem]) rfl ⟨_, rfl, Or.inl ⟨rfl, rfl⟩, HB2.out⟩
  have HW := Lib.hid hwm
  have HRL : Hid (rateF l = true) := Lib.hid (by unfold wmayF at hwm; simp only [Bool.and_eq_true] at hwm; exact hwm.2)
  have hab : 0 ≤ a ∧ a < b ∧ b ≤ 4096 := by
    unfold wmayF at hwm
    simp only [Bool.and_eq_true] at hwm
    have := hwm.1
    unfold mayF at this
    simp only [Bool.and_eq_true, decide_eq_true_eq] at this
    omega
  clear hwm
  obtain ⟨x0, hx0, hz⟩ := may_head HMR.out
  have hn0 : 0 < rs.length := by cases rs with | nil => simp at hx0 | cons y r => simp
  have hc1 : cnt rs a - 1 + 1 = cnt rs a := by have := cnt_head hx0 (t := a) (by omega); omega
  have hP1 : Parts rs a (cnt rs a - 1 + 1) := by rw [hc1]; exact parts_cnt rs a (may_rise HMR.out)
  have hrise1 : Rise (partT rs a) := part_rise rs a _ (may_rise HMR.out) hP1
  have hh1 : (partT rs a).head? = some x0 := by unfold partT; rw [part_head _ _ _ hn0]; exact hx0
  have hlen1 := part_length rs a (cnt rs a - 1)
  have hlen1' : rs.length ≤ (partT rs a).length ∧ (partT rs a).length ≤ rs.length + 1 := hlen1
  have hc2 : cnt (partT rs a) b - 1 + 1 = cnt (partT rs a) b := by have := cnt_head hh1 (t := b) (by omega); omega
  have hP2 : Parts (partT rs a) b (cnt (partT rs a) b - 1 + 1) := by rw [hc2]; exact parts_cnt _ b hrise1
  have hlen2 : (partT rs a).length ≤ (partT (partT rs a) b).length ∧ (partT (partT rs a) b).length ≤ (partT rs a).length + 1 := part_length (partT rs a) b (cnt (partT rs a) b - 1)
  have hrate1 : ∀ x ∈ partT rs a, rateF x.f1 = true := part_rates rs a _ (by have := hP1.1; omega) (fun x hx => (may_rates HMR.out x hx).2)
  have hrate2 : ∀ x ∈ partT (partT rs a) b, rateF x.f1 = true := part_rates _ b _ (by have := hP2.1; omega) hrate1
  have HF2 : Hid (F = turnO (turnL a b turn (partT (partT rs a) b)) refused) := Lib.hid (by rw [← HF.out]; unfold turnR; rw [if_pos ⟨HMR.out, HW.out⟩])
  have HPA := Lib.hid hP1
  have HPB : Hid (Parts (partT rs a) b (cnt (partT rs a) b - 1 + 1)) := Lib.hid hP2
  have HRA := Lib.hid hrate2
  have e1 : partF rs (cnt rs a - 1) a = partT rs a := rfl
  have e2 : partF (partT rs a) (cnt (partT rs a) b - 1) b = partT (partT rs a) b := rfl
  have HE1 := Lib.hid e1
  have HE2 := Lib.hid e2
  obtain ⟨K1, hK1⟩ : ∃ K, cnt rs a - 1 = K := ⟨_, rfl⟩
  obtain ⟨K2, hK2⟩ : ∃ K, cnt (partT rs a) b - 1 = K := ⟨_, rfl⟩
  rw [hK1] at HPA HE1
  rw [hK2] at HPB HE2
  clear hP1 hP2 hrate1 hrate2 hh1 hrise1 hc1 hc2 hx0 e1 e2 hK1 hK2 hlen1 HF
  generalize partT (partT rs a) b = o2 at HF2 HRA HE2 hlen2
  generalize partT rs a = o1 at HPB HE1 HE2 hlen1' hlen2
  go_enter Try.func66, Try.ntmps66
  go_wp2_with fail
  refine HM.out.mono ?_
  rintro e w1 ⟨rfl, hb1⟩
  have HB1 := Lib.hid (below_then HB0.out HB0.out.size hb1)
  have HX1 : Hid (Box w1 w.heap.size a b l) := Lib.hid (blk_below HBX.out hb1)
  have HP1 : Hid (Box w1 p a b l) := Lib.hid (blk_below HPX.out hb1)
  have c0 := blk_cell HX1.out 0
  have c1 := blk_cell HX1.out 1
  have c2 := blk_cell HX1.out 2
  simp at c0 c1 c2
  clear hb1
  go_wp2_with fail
  refine (wmay_is a b l _).mono ?_
  rintro e w2 ⟨rfl, hb2⟩
  have HB2 := Lib.hid (below_then HB1.out HB1.out.size hb2)
  have HX2 : Hid (Box w2 w.heap.size a b l) := Lib.hid (blk_below HX1.out hb2)
  have HP2 : Hid (Box w2 p a b l) := Lib.hid (blk_below HP1.out hb2)
  clear hb2 c0 c1 c2 HX1 HP1 HB0 HBX HPX HB1
  rw [HW.out]
  have HC2 : Hid (Kd.C k82 w2.drew A rs.length rs) := Lib.hid (Kd.C_below (Kd.C_below HR.out HB2.out) (below_drew (Below.refl _ _)))
  have HCL := Lib.hid (clone_is A c rs w2.drew HC2.out hn0 (by omega))
  have c0 := blk_cell HX2.out 0
  have c1 := blk_cell HX2.out 1
  simp at c0 c1
  have hxl : w.heap.size < w2.drew.heap.size := (blk_lt HX2.out : w.heap.size < w2.heap.size)
  have c0d : w2.drew.cell? ⟨w.heap.size, 0, none⟩ = some (.int .i64 a) := c0
  have c1d : w2.drew.cell? ⟨w.heap.size, 1, none⟩ = some (.int .i64 b) := c1
  go_wp2_with fail
  go_region_held3 (fun W => W.cell? ⟨w.heap.size, 0, none⟩ = some (.int .i64 a) ∧ W.cell? ⟨w.heap.size, 1, none⟩ = some (.int .i64 b))
    (first | exact ⟨c0d, c1d⟩ | exact ⟨c05, c15⟩ | exact ⟨c04, c14⟩ | exact ⟨c03, c13⟩)
    (first
      | (go_at_call 84; refine HCL.out.mono ?_; rintro e w3 ⟨g, cap, rfl, hr3, hb3⟩; have c03 := (hb3.cell (show (⟨w.heap.size, 0, none⟩ : Addr).block < w2.drew.heap.size from hxl)).trans c0d; have c13 := (hb3.cell (show (⟨w.heap.size, 1, none⟩ : Addr).block < w2.drew.heap.size from hxl)).trans c1d; have HR3 := Lib.hid hr3; have HB3 := Lib.hid hb3; clear hr3 hb3)
      | (go_at_call 83; refine (parted_is g4 o1.length cap4 w2.drew.heap.size K2 o1 b w4 HR4.out HB4.out.size (by omega) HPB.out).mono ?_; rintro e w5 ⟨v5, rfl, hr5, hb5⟩; rw [HE2.out] at hr5; obtain ⟨g5, cap5, rfl⟩ := row_some (n := 0) (cap := 0) hr5 (by omega); have c05 := (hb5.cell (show (⟨w.heap.size, 0, none⟩ : Addr).block < w2.drew.heap.size from hxl)).trans c04; have c15 := (hb5.cell (show (⟨w.heap.size, 1, none⟩ : Addr).block < w2.drew.heap.size from hxl)).trans c14; have HR5 := Lib.hid hr5; have HB5 := Lib.hid (HB4.out.trans hb5); clear hr5 hb5)
      | (go_at_call 83; refine (parted_is g rs.length cap w2.drew.heap.size K1 rs a w3 HR3.out HB3.out.size (by omega) HPA.out).mono ?_; rintro e w4 ⟨v4, rfl, hr4, hb4⟩; rw [HE1.out] at hr4; obtain ⟨g4, cap4, rfl⟩ := row_some (n := 0) (cap := 0) hr4 (by omega); have c04 := (hb4.cell (show (⟨w.heap.size, 0, none⟩ : Addr).block < w2.drew.heap.size from hxl)).trans c03; have c14 := (hb4.cell (show (⟨w.heap.size, 1, none⟩ : Addr).block < w2.drew.heap.size from hxl)).trans c13; have HR4 := Lib.hid hr4; have HB4 := Lib.hid (HB3.out.trans hb4); clear hr4 hb4))
  clear c0d c1d c03 c13 c04 c14 c05 c15 HCL HC2 HR3 HB3 HR4 HB4 c0 c1 HM
  have HX3 : Hid (∀ W, Below w2.drew.heap.size w2.drew W → Box W p a b l ∧ Box W w.heap.size a b l) := Lib.hid (fun W hW =>
    ⟨(hW.block p (show p < w2.heap.size by have : w.heap.size < w2.heap.size := hxl; omega)).trans (show w2.drew.heap[p]? = _ from HP2.out), (hW.block w.heap.size hxl).trans (show w2.drew.heap[w.heap.size]? = _ from HX2.out)⟩)
  have HBW : Hid (Below w.heap.size w w2.drew) := Lib.hid (below_drew HB2.out)
  have HXL : Hid (w.heap.size ≤ w2.drew.heap.size) := Lib.hid HBW.out.size
  clear HX2 HP2 HB2 hxl HPA HPB HE1 HE2
  generalize w2.drew = w3 at HX3 HBW HXL HR5 HB5
  go_wp2_with fail
  go_loopw [34] (TurnAt w3 w3.heap.size g5 o2.length cap5 a b turn o2) (fun i _ => o2.length - (intOf i).toNat)
  case atStart =>
    refine ⟨0, o2, rfl, Nat.zero_le _, rfl, rfl, ?_, HB5.out, HR5.out⟩
    rw [List.drop_zero, List.take_zero]
    cases turnL a b turn o2 <;> simp
  case round =>
    obtain ⟨k, ys, rfl, hk, hyl, hyd, hyt, hB, hR⟩ := hrel
    have HBk := Lib.hid hB
    have HRk := Lib.hid hR
    have HYL := Lib.hid hyl
    have HYD := Lib.hid hyd
    have HYT := Lib.hid hyt
    clear hB hR hyl hyd hyt HB5 HR5
    by_cases hlt : k < o2.length
    · have hd : decide ((k : Int) < (o2.length : Int)) = true := by simpa using hlt
      obtain ⟨hbp, hbx⟩ := HX3.out _ HBk.out
      have c0 := blk_cell hbx 0
      have c1 := blk_cell hbx 1
      simp at c0 c1
      obtain ⟨A_, c_, e_, _, hC⟩ := Kd.R_reads HRk.out
      injection e_ with e1 e2 e3
      subst e1 e3
      clear e2
      have hky : k < ys.length := by have := HYL.out; omega
      obtain ⟨ad, e1, x0, x1⟩ := at_T82 hC (k : Int) (by omega) (by omega)
      injection e1 with e1
      subst e1
      have hxe : ys[k] = o2[k] := by
        have h := congrArg (fun l => l[0]?) HYD.out
        simp only [List.getElem?_drop, Nat.add_zero] at h
        rw [List.getElem?_eq_getElem hky, List.getElem?_eq_getElem hlt] at h
        injection h
      rw [rdR_at ys k hky, hxe, Int.toNat_natCast, add_plain] at x0 x1
      have HDR : Hid (o2.drop k = o2[k] :: o2.drop (k + 1)) := Lib.hid (List.drop_eq_getElem_cons hlt)
      have HRT : Hid (rateF o2[k].f1 = true) := Lib.hid (HRA.out _ (List.getElem_mem hlt))
      have HYS : Hid (ys.set k o2[k] = ys) := Lib.hid (by rw [← hxe]; exact List.set_getElem_self hky)
      have HDY : Hid (ys.drop (k + 1) = o2.drop (k + 1)) := Lib.hid (by
        have h := congrArg (List.drop 1) HYD.out
        rwa [List.drop_drop, List.drop_drop] at h)
      have HDS : Hid (∀ x' : Rn, (ys.set k x').drop (k + 1) = o2.drop (k + 1)) := Lib.hid (fun x' => by rw [List.drop_set_of_lt (by omega)]; exact HDY.out)
      have HKY := Lib.hid hky
      clear hxe hC hbp hbx
      generalize o2[k] = x at x0 x1 HDR HRT HYS
      have h0 : (0 : Int) ≤ (k : Int) := by omega
      have h1 : (k : Int) < (o2.length : Int) := by omega
      obtain ⟨hv, hhv⟩ : ∃ hv, hasF a b x.f0 = hv := ⟨_, rfl⟩
      have HV := Lib.hid hhv
      have HHS : Hid (∀ W, Calls Try.prog 19 #[.agg #[.int .i64 a, .int .i64 b], .int .i64 x.f0] W fun e w' => e = .returned (.bool hv) ∧ Below W.heap.size W w') := Lib.hid (fun W => by rw [← hhv]; exact has_is _ _ _ W)
      clear hhv
      go_wp2_with fail
      go_still_tail 7, (by kernel_rfl)
      change wpList _ _ _ _ _ wr.drew
      have HBd : Hid (Below w3.heap.size w3 wr.drew) := Lib.hid (below_drew HBk.out)
      have HRd : Hid (Kd.R k82 82 wr.drew w3.heap.size (fun _ => True) (.slice (some ⟨g5, 0, none⟩) o2.length cap5) ys) := Lib.hid (Kd.R_move HRk.out (fun _ _ => rfl))
      have x1d : wr.drew.cell? ⟨g5, k * 2 + 1, none⟩ = some (.int .i64 x.f1) := x1
      have x0d : wr.drew.cell? ⟨g5, k * 2, none⟩ = some (.int .i64 x.f0) := x0
      generalize wr.drew = w6 at HBd HRd x1d x0d ⊢
      clear x0 x1 c0 c1 HBk HRk
      have HX0 := Lib.hid x0d
      have HX1 := Lib.hid x1d
      clear x0d x1d
      go_wp2_with fail
      refine (HHS.out _).mono ?_
      rintro e w7 ⟨rfl, hb7⟩
      have x0 := pw_cell_below hb7 HX0.out
      have x1 := pw_cell_below hb7 HX1.out
      have HX0 := Lib.hid x0
      have HB7 := Lib.hid (below_then HBd.out HBd.out.size hb7)
      have HR7 := Lib.hid (Kd.R_below HRd.out hb7)
      clear hb7 HBd HRd x0
      cases hv with
      | false =>
        clear x1
        have HST : Hid (turnL a b turn o2 = (turnL a b turn (o2.drop (k + 1))).map (ys.take (k + 1) ++ ·)) := Lib.hid (by
          have := turn_step (x' := x) HKY.out HYT.out HDR.out (by rw [turnL, if_neg (by rw [HV.out]; decide)])
          rwa [HYS.out] at this)
        go_wp2
        go_roundw
        case rel => exact ⟨k + 1, ys, by go_num, by omega, HYL.out, HDY.out, HST.out, HB7.out, HR7.out⟩
        case measure => simp [intOf]; omega
      | true =>
        obtain ⟨tl, tok, hT⟩ : ∃ tl tok, turn x.f1 = (tl, tok) := ⟨_, _, rfl⟩
        have HTC := HTT.out x.f1 w7 HRL.out HRT.out (HX3.out _ HB7.out).1
        rw [hT] at HTC
        simp only at HTC
        have HTC := Lib.hid HTC
        have HTE := Lib.hid hT
        clear hT
        go_wp2_with fail
        refine HTC.out.mono ?_
        rintro e w8 ⟨rfl, hb8⟩
        have HB8 := Lib.hid (below_then HB7.out HB7.out.size hb8)
        have HR8 := Lib.hid (Kd.R_below HR7.out hb8)
        have HY0 := Lib.hid (pw_cell_below hb8 HX0.out)
        have HY1 := Lib.hid (pw_cell_below hb8 x1)
        clear hb8 x1 HB7 HR7 HX1
        cases tok with
        | false =>
          have HFF : Hid (F = ([], refused)) := Lib.hid (by
            rw [HF2.out, HYT.out, HDR.out, turnL, if_pos HV.out, if_neg (by rw [HTE.out]; exact Bool.false_ne_true)]
            rfl)
          go_wp2
          exact bodyPost_ret (v := .tuple #[.slice none 0 0, .int .i64 refused]) (by simp [results, Try.results66, go_sem]) rfl ⟨.slice none 0 0, by rw [HFF.out], by rw [HFF.out]; exact Or.inl ⟨rfl, rfl⟩, below_then HBW.out HBW.out.size HB8.out⟩
        | true =>
          have HST : Hid (turnL a b turn o2 = (turnL a b turn (o2.drop (k + 1))).map ((ys.set k ⟨x.f0, tl⟩).take (k + 1) ++ ·)) := Lib.hid (turn_step (x' := ⟨x.f0, tl⟩) HKY.out HYT.out HDR.out (by rw [turnL, if_pos HV.out, HTE.out, if_pos rfl]))
          have HZ : Hid (∀ (i : Nat) (u : Value), [Value.int .i64 x.f0, Value.int .i64 x.f1][i]? = some u → w8.cell? ⟨g5, ((k : Nat) : Int).toNat * 2 + i, none⟩ = some u) := Lib.hid (by
            intro i u hu
            match i, hu with
            | 0, hu => injection hu with hu; subst hu; exact HY0.out
            | 1, hu => injection hu with hu; subst hu; exact HY1.out)
          have HJL := Lib.hid h1
          go_wp2_with (first | ((with_reducible refine gate_ (.store 3 (.tmp 63) (.tmp 61)) rfl ?_); refine Kd.R_store k82 (w0 := w3) w3.heap.size rfl rfl 3 (.tmp 63) (.tmp 61) rfl 82 (g := g5) (n := o2.length) (cap := cap5) (o' := k * 2 + 1) (k : Int) 1 ys ⟨x.f0, tl⟩ (.int .i64 tl) [.int .i64 tl] [Value.int .i64 x.f0, Value.int .i64 x.f1] (fun _ => True) (fun _ => False) ?a1 ?a2 ?a3 ?a4 ?a5 ?a6 ?a7 ?a8 ?a9 ?b1 ?b2 ?b3 ?b4 ?b5 ?b6 ?_; (case a1 => rfl); (case a2 => rfl); (case a3 => rfl); (case a4 => rfl); (case a5 => rfl); (case a6 => (intro q hq; simp at hq; subst hq; rfl)); (case a7 => exact HR8.out); (case a8 => exact Int.natCast_nonneg k); (case a9 => exact HJL.out); (case b1 => rfl); (case b2 => exact HZ.out); (case b3 => exact Nat.le_refl _); (case b4 => exact k82_mkM _ _ _ ⟨x.f0, tl⟩); (case b5 => exact fun _ h => h.elim); (case b6 => exact HB8.out); intro w9 hr9 hb9 hg9; have HR9 := Lib.hid hr9; have HB9 := Lib.hid hb9; clear hr9 hb9 hg9))
          go_roundw
          case rel => exact ⟨k + 1, ys.set k ⟨x.f0, tl⟩, by go_num, by omega, by rw [List.length_set]; exact HYL.out, HDS.out _, HST.out, HB9.out, HR9.out⟩
          case measure => simp [intOf]; omega
    · have hd : decide ((k : Int) < (o2.length : Int)) = false := by simpa using hlt
      have HFF : Hid (F = (tidyF ys, 0)) := Lib.hid (by
        rw [HF2.out, HYT.out, List.drop_of_length_le (by omega), turnL, List.take_of_length_le (by have := HYL.out; omega)]
        simp [turnO])
      have HTY := Lib.hid (tidy_is g5 o2.length cap5 w3.heap.size ys wr HRk.out HBk.out.size (by have := HYL.out; omega))
      go_wp2_with fail
      refine HTY.out.mono ?_
      rintro e w4 ⟨v4, rfl, hm4, hb4⟩
      have HM4 := Lib.hid hm4
      have HB4 := Lib.hid (HBk.out.trans hb4)
      clear hm4 hb4
      go_wp2
      exact bodyPost_ret (v := .tuple #[v4, .int .i64 0]) (by simp [results, Try.results66, go_sem]) rfl ⟨v4, by rw [HFF.out], by rw [HFF.out]; exact Or.inr (HM4.out.lower HXL.out), below_then HBW.out HBW.out.size HB4.out⟩

set_option maxHeartbeats 4000000 in
set_option maxRecDepth 100000 in
theorem ptake_is (A : Option Addr) (c : Nat) (rs : List Rn) (a b l : Int) (w : World) (hr : Kd.C k82 w A rs.length rs) (hc : rs.length ≤ c) (hl : rs.length ≤ 281474976710656) :
    Calls Try.prog 47 #[.slice A rs.length c, .agg #[.int .i64 a, .int .i64 b, .int .i64 l]] w fun e w' => ∃ v, e = .returned (.tuple #[v, .int .i64 (turnR rs a b l 1802 (takeT l)).2]) ∧ Res w' w.heap.size v (turnR rs a b l 1802 (takeT l)).1 ∧ Below w.heap.size w w' := by
  have HB0 : Hid (Below w.heap.size w (w.alloc (.cells #[.int .i64 a, .int .i64 b, .int .i64 l] 73))) := Lib.hid ((Below.refl _ _).alloc (Nat.le_refl _) _)
  have HBX : Hid (Box (w.alloc (.cells #[.int .i64 a, .int .i64 b, .int .i64 l] 73)) w.heap.size a b l) := Lib.hid (blk_new _ _)
  have HT := Lib.hid (turned_take A c rs a b l 1802 w.heap.size (takeT l) _ (Kd.C_below hr HB0.out) hc hl HBX.out (fun load W hlr hld hp => take1_is _ a b l load W hp hld hlr))
  clear hr
  go_enter Try.func47, Try.ntmps47
  go_wp2_with fail
  refine HT.out.mono ?_
  rintro e w1 ⟨v, rfl, hm1, hb1⟩
  have HM1 := Lib.hid (hm1.lower (b := w.heap.size) HB0.out.size)
  have HB1 := Lib.hid (below_then HB0.out HB0.out.size hb1)
  clear hm1 hb1
  go_wp2
  exact bodyPost_ret (v := .tuple #[v, .int .i64 (turnR rs a b l 1802 (takeT l)).2]) (by simp [results, Try.results47, go_sem]) rfl ⟨v, rfl, HM1.out, HB1.out⟩
end Go.Proofs.Ytbacdpagpdmkoaa.Man

/- profile.Build: what it answers, and that the call answers so. -/
namespace Go.Proofs.Ytbacdpagpdmkoaa.Man
open Go.RowKit Go.Proofs.Ytbacdpagpdmkoaa.QT Go.Proofs.YtbacdpagpdmkoaaW.PrintWords Go.Proofs.YtbacdpagpdmkoaaW.PrintLast Go.Proofs.YtbacdpagpdmkoaaW.PrintMore

def wOK (x : Wt) : Bool := wmayF x.f0.f0 x.f0.f1 x.f1
def ptsOf (ws : List Wt) : List Int := ws.flatMap fun x => [x.f0.f0, x.f0.f1]
theorem ptsOf_take (ws : List Wt) (k : Nat) (h : k < ws.length) : ptsOf (ws.take (k + 1)) = ptsOf (ws.take k) ++ [ws[k].f0.f0, ws[k].f0.f1] := by
  unfold ptsOf
  rw [List.take_succ_eq_append_getElem h, List.flatMap_append]
  simp
theorem ptsOf_length : ∀ ws : List Wt, (ptsOf ws).length = ws.length * 2
  | [] => rfl
  | x :: r => by
    have := ptsOf_length r
    unfold ptsOf at this ⊢
    simp only [List.flatMap_cons, List.length_append, List.length_cons, List.length_nil]
    omega
def buildL (ws : List Wt) : List Int → Option (List Rn)
  | [] => some []
  | p :: r => if (wsumR p 0 ws).2 = true then (if p < 4096 then (buildL ws r).map (⟨p, (wsumR p 0 ws).1⟩ :: ·) else buildL ws r) else none
def turnO' (o : Option (List Rn)) (refused : Int) : List Rn × Int := turnO o refused
def buildR (ws : List Wt) : List Rn × Int := if ws.length ≤ 64 ∧ ws.all wOK = true then turnO (buildL ws (uniqF (sortF (0 :: ptsOf ws)))) 1801 else ([], 1800)

def BuildA (w : World) (ws : List Wt) (v i : Value) (w' : World) : Prop := ∃ k : Nat, i = .int .i64 (k : Int) ∧ k ≤ ws.length ∧ ws.all wOK = (ws.drop k).all wOK ∧ Kd.R (Kd.int .i64) 3 w' w.heap.size (fun _ => True) v (0 :: ptsOf (ws.take k)) ∧ Below w.heap.size w w'
def BuildB (w5 : World) (ws : List Wt) (ps : List Int) (v i : Value) (w' : World) : Prop := ∃ (k : Nat) (os : List Rn), i = .int .i64 (k : Int) ∧ k ≤ ps.length ∧ os.length ≤ k ∧ buildL ws ps = (buildL ws (ps.drop k)).map (os ++ ·) ∧ Kd.R k82 82 w' w5.heap.size (fun _ => True) v os ∧ Below w5.heap.size w5 w'
theorem build_first (ws : List Wt) (os : List Rn) (h : buildL ws (uniqF (sortF (0 :: ptsOf ws))) = some os) : 0 < os.length := by
  have hm : (0 : Int) ∈ sortF (0 :: ptsOf ws) := (sortF_mem _ _).2 (List.mem_cons_self)
  have hs := sortF_rising (0 :: ptsOf ws)
  cases hx : sortF (0 :: ptsOf ws) with
  | nil => rw [hx] at hm; cases hm
  | cons p r =>
    rw [hx] at hm hs h
    have hp : p ≤ 0 := by
      rcases List.mem_cons.1 hm with h0 | h0
      · omega
      · exact (List.pairwise_cons.1 hs).1 0 h0
    rw [uniqF, buildL] at h
    split at h
    · rw [if_pos (by omega)] at h
      cases hb : buildL ws (uqF p r) with
      | none => rw [hb] at h; cases h
      | some o => rw [hb] at h; injection h with h; rw [← h]; simp
    · cases h
theorem uniq_count (ws : List Wt) : (uniqF (sortF (0 :: ptsOf ws))).length ≤ ws.length * 2 + 1 := by
  have := uniqF_le (sortF (0 :: ptsOf ws))
  rw [sortF_length, List.length_cons, ptsOf_length] at this
  exact this

set_option maxHeartbeats 8000000 in
set_option maxRecDepth 100000 in
theorem build_is (A : Option Addr) (c : Nat) (ws : List Wt) (w : World) (hr : Kd.C k73 w A ws.length ws) (hc : ws.length ≤ c) (hl : ws.length ≤ 281474976710656) :
    Calls Try.prog 41 #[.slice A ws.length c] w fun e w' => ∃ v, e = .returned (.tuple #[v, .int .i64 (buildR ws).2]) ∧ Res w' w.heap.size v (buildR ws).1 ∧ Below w.heap.size w w' := by
  have HR := Lib.hid hr
  clear hr
  obtain ⟨F, hF⟩ : ∃ F, buildR ws = F := ⟨_, rfl⟩
  rw [hF]
  have HF := Lib.hid hF
  clear hF
  by_cases h64 : ws.length ≤ 64
  case neg =>
    obtain rfl : F = ([], 1800) := by rw [← HF.out]; unfold buildR; rw [if_neg (fun h => h64 h.1)]
    have d0 : decide ((ws.length : Int) > 64) = true := decide_eq_true (by omega)
    go_enter Try.func41, Try.ntmps41
    go_wp2
    exact bodyPost_ret (v := .tuple #[.slice none 0 0, .int .i64 1800]) (by simp [results, Try.results41, go_sem]) rfl ⟨_, rfl, Or.inl ⟨rfl, rfl⟩, Below.refl _ _⟩
  have d0 : decide ((ws.length : Int) > 64) = false := decide_eq_false (by omega)
  have H64 := Lib.hid h64
  have HB0 := Lib.hid (Below.refl w.heap.size w)
  go_enter Try.func41, Try.ntmps41
  go_wp2_with (first | ((with_reducible refine gate_dst (N := 15) rfl ?_); refine Kd.R_lit (Kd.int .i64) (w0 := w) w.heap.size 3 ?hg (N := 15) ?hd (xs := [0]) (inner := [.int .i64 0]) (ok := fun _ => True) (okp := fun _ => True) ?hr ?hp (fun _ hk => hk) trivial HB0.out HB0.out.size (by simp) ?_; (case hd => rfl); (case hg => rfl); (case hr => first | (go_simp; done) | (go_simp; rfl)); (case hp => exact Reps.one (show Kd.M (Kd.int .i64) _ _ _ 0 [.int .i64 0] from rfl) (Reps.none _ _)); intro v2 w2 ho2 hb2 hg2 _; have HO2 := Lib.hid ho2; have HB2 := Lib.hid hb2; clear ho2 hb2 hg2))
  go_loopw [4, 18] (BuildA w ws) (fun _ i _ => ws.length - (intOf i).toNat)
  case atStart => exact ⟨0, rfl, Nat.zero_le _, by rw [List.drop_zero], HO2.out, HB2.out⟩
  case round =>
    obtain ⟨k, rfl, hk, ha, ho, hb⟩ := hrel
    obtain ⟨Av, cv, rfl⟩ := Kd.R_slice ho
    have HO := Lib.hid ho
    have HB := Lib.hid hb
    have HA := Lib.hid ha
    clear ho hb ha HO2 HB2
    by_cases hlt : k < ws.length
    · have hd : decide ((k : Int) < (ws.length : Int)) = true := by simpa using hlt
      obtain ⟨ad, rfl, x0, x1, x2⟩ := at_T73 (Kd.C_below HR.out HB.out) (k : Int) (by omega) (by omega)
      rw [rdW_at ws k hlt, Int.toNat_natCast] at x0 x1 x2
      have HD : Hid (ws.drop k = ws[k] :: ws.drop (k + 1)) := Lib.hid (List.drop_eq_getElem_cons hlt)
      have HPT := Lib.hid (ptsOf_take ws k hlt)
      have HPL : Hid ((ptsOf (ws.take k)).length ≤ 128) := Lib.hid (by rw [ptsOf_length, List.length_take]; omega)
      generalize ws[k] = x at x0 x1 x2 HD HPT
      generalize ptsOf (ws.take k) = xs at HO HPT HPL
      obtain ⟨hv, hhv⟩ : ∃ hv, wOK x = hv := ⟨_, rfl⟩
      have HV := Lib.hid hhv
      have HWM : Hid (∀ W, Calls Try.prog 59 #[.agg #[.int .i64 x.f0.f0, .int .i64 x.f0.f1, .int .i64 x.f1]] W fun e w' => e = .returned (.bool hv) ∧ Below W.heap.size W w') := Lib.hid (fun W => by rw [← hhv]; exact wmay_is _ _ _ W)
      clear hhv
      go_wp2_with fail
      refine (HWM.out _).mono ?_
      rintro e w1 ⟨rfl, hb1⟩
      have HB1 := Lib.hid (below_then (HB.out.alloc HB.out.size (.cells #[.int .i64 x.f0.f0, .int .i64 x.f0.f1, .int .i64 x.f1] 73)) (by have := HB.out.size; simp; omega) hb1)
      have hbx := blk_below (blk_new wr (.cells #[.int .i64 x.f0.f0, .int .i64 x.f0.f1, .int .i64 x.f1] 73 (0, 0))) hb1
      have c0 := blk_cell hbx 0
      have c1 := blk_cell hbx 1
      simp at c0 c1
      have HO1 := Lib.hid (Kd.R_below (Kd.R_below HO.out ((Below.refl _ _).alloc (Nat.le_refl _) _)) hb1)
      clear hb1 hbx x0 x1 x2
      cases hv with
      | false =>
        have HFF : Hid (F = ([], 1800)) := Lib.hid (by
          rw [← HF.out]; unfold buildR
          rw [if_neg (fun h => by have := HA.out; rw [h.2, HD.out, List.all_cons, HV.out] at this; simp at this)])
        clear c0 c1
        go_wp2
        exact bodyPost_ret (v := .tuple #[.slice none 0 0, .int .i64 1800]) (by simp [results, Try.results41, go_sem]) rfl ⟨.slice none 0 0, by rw [HFF.out], by rw [HFF.out]; exact Or.inl ⟨rfl, rfl⟩, HB1.out⟩
      | true =>
        have HAF : Hid (ws.all wOK = (ws.drop (k + 1)).all wOK) := Lib.hid (by rw [HA.out, HD.out, List.all_cons, HV.out, Bool.true_and])
        have HLC := Lib.hid (lit2_C w1 x.f0.f0 x.f0.f1)
        have HO2 := Lib.hid (Kd.R_below HO1.out ((Below.refl _ _).alloc (Nat.le_refl _) (.cells #[.int .i64 x.f0.f0, .int .i64 x.f0.f1] 3)))
        have HB2 := Lib.hid (HB1.out.alloc HB1.out.size (.cells #[.int .i64 x.f0.f0, .int .i64 x.f0.f1] 3))
        have HLN : Hid (((0 :: xs).length + 2) * 8 ≤ 140737488355328) := Lib.hid (by have := HPL.out; simp; omega)
        go_wp2_with (first | ((with_reducible refine gate_builtin (b := .append) (xs := #[.tmp 25, .tmp 32]) rfl ?_); at_builtin; refine Kd.R_append_rows (Kd.int .i64) (Rr := (Kd.int .i64).K (w1.alloc (.cells #[.int .i64 x.f0.f0, .int .i64 x.f0.f1] 3))) (w0 := w) w.heap.size rfl (.tmp 25) (.tmp 32) 41 3 (.int .i64 0) 8 rfl Try.underlying41 info3 rfl (by decide) (by omega) (.slice Av (0 :: xs).length cv) (0 :: xs) [x.f0.f0, x.f0.f1] (some ⟨w1.heap.size, 0, none⟩) 2 2 (fun _ => True) (fun _ => False) rfl rfl ?aO ?aR ?aM (fun _ h => h.elim) ?aF ?aB ?aS ?aL ?_; (case aO => exact HO2.out); (case aR => exact HLC.out); (case aM => (intro y cs hy; exact hy)); (case aF => exact (fun _ _ => trivial)); (case aB => exact HB2.out); (case aS => exact HB2.out.size); (case aL => exact HLN.out); intro v3 w3 ho3 hb3 hg3 hat3; have HO3 := Lib.hid ho3; have HB3 := Lib.hid hb3; clear ho3 hb3 hg3 hat3))
        go_roundw
        case rel => exact ⟨k + 1, by go_num, by omega, HAF.out, by rw [HPT.out]; exact HO3.out, HB3.out⟩
        case measure => simp [intOf]; omega
    · have hd : decide ((k : Int) < (ws.length : Int)) = false := by simpa using hlt
      have HT : Hid (ws.take k = ws) := Lib.hid (List.take_of_length_le (by omega))
      rw [HT.out] at HO
      have HFA : Hid (F = turnO (buildL ws (uniqF (sortF (0 :: ptsOf ws)))) 1801) := Lib.hid (by
        rw [← HF.out]; unfold buildR
        rw [if_pos ⟨H64.out, by rw [HA.out, List.drop_of_length_le (by omega)]; rfl⟩])
      have HPC := Lib.hid (uniq_count ws)
      have HXL : Hid ((0 :: ptsOf ws).length ≤ 129) := Lib.hid (by rw [List.length_cons, ptsOf_length]; have := H64.out; omega)
      have HFS := Lib.hid (build_first ws)
      rw [HT.out] at *
      generalize hxs : 0 :: ptsOf ws = xs at HO HFA HPC HXL HFS
      go_wp2_with fail
      refine (sort_row 3 w.heap.size (fun _ => True) (.slice Av xs.length cv) xs wr HO.out (by have := HXL.out; omega)).mono ?_
      rintro e w5 ⟨rfl, ho5, hg5⟩
      have HB5 := Lib.hid (HB.out.grown hg5 HB.out.size (fun k hk => own_base (int_row HO.out).2 k hk))
      have HO5 := Lib.hid ho5
      have HLS : Hid ((sortF xs).length ≤ 129) := Lib.hid (by rw [sortF_length]; exact HXL.out)
      clear ho5 hg5
      generalize sortF xs = ys at *
      go_wp2_with fail
      refine (compact_row 3 w.heap.size (fun _ => True) (.slice Av xs.length cv) ys w5 HO5.out (by have := HLS.out; omega)).mono ?_
      rintro e w6 ⟨vc, rfl, ho6, hg6, _⟩
      have HB6 := Lib.hid (HB5.out.grown hg6 HB5.out.size (fun k hk => own_base (int_row HO5.out).2 k hk))
      generalize uniqF ys = zs at *
      obtain ⟨Ac, cc, rfl, _, hC6⟩ := Kd.R_reads ho6
      have HC6 := Lib.hid hC6
      clear ho6 hg6 hC6 hd hk
      go_wp2_with fail
      go_loopw [7, 40] (BuildB w6 ws zs) (fun _ i _ => zs.length - (intOf i).toNat)
      case atStart => exact ⟨0, [], rfl, Nat.zero_le _, Nat.le_refl _, by simp, Kd.R_nil _ _ _ _ _, Below.refl _ _⟩
      case round =>
        obtain ⟨j, os, rfl, hj, hos, hbl, ho, hb⟩ := hrel
        have hzl : zs.length ≤ 281474976710656 := by have := HPC.out; have := H64.out; omega
        obtain ⟨Ao, co, rfl⟩ := Kd.R_slice ho
        have HV := Lib.hid ho
        have HBB := Lib.hid hb
        have HOS := Lib.hid hos
        have HBL := Lib.hid hbl
        clear ho hb hos hbl
        by_cases hlj : j < zs.length
        · have hd : decide ((j : Int) < (zs.length : Int)) = true := by simpa using hlj
          obtain ⟨ad, rfl, x0⟩ := Kd.at_int (Kd.C_below HC6.out HBB.out) (j : Int) (by omega) (by omega)
          have hx : rd zs (j : Int) = zs[j] := by simp [rd, List.getD_eq_getElem?_getD, hlj]
          have HD : Hid (zs.drop j = zs[j] :: zs.drop (j + 1)) := Lib.hid (List.drop_eq_getElem_cons hlj)
          rw [hx, Int.toNat_natCast] at x0
          clear hx
          generalize zs[j] = p at x0 HD
          have HCW := Lib.hid (Kd.C_below HR.out (below_then HB6.out HB6.out.size HBB.out))
          have HWS := Lib.hid (wsum_is A c ws p wr HCW.out hc hl)
          obtain ⟨ls, lo, hls⟩ : ∃ ls lo, wsumR p 0 ws = (ls, lo) := ⟨_, _, rfl⟩
          rw [hls] at HWS
          simp only at HWS
          have HLS2 := Lib.hid hls
          clear hls
          go_wp2_with fail
          refine HWS.out.mono ?_
          rintro e w7 ⟨rfl, hb7⟩
          have HB7 := Lib.hid (below_then HBB.out HBB.out.size hb7)
          have HV7 := Lib.hid (Kd.R_below HV.out hb7)
          clear hb7 x0
          cases lo with
          | false =>
            have HFF : Hid (F = ([], 1801)) := Lib.hid (by
              rw [HFA.out, HBL.out, HD.out, buildL, if_neg (by rw [HLS2.out]; exact Bool.false_ne_true)]
              rfl)
            go_wp2
            exact bodyPost_ret (v := .tuple #[.slice none 0 0, .int .i64 1801]) (by simp [results, Try.results41, go_sem]) rfl ⟨.slice none 0 0, by rw [HFF.out], by rw [HFF.out]; exact Or.inl ⟨rfl, rfl⟩, below_then HB6.out HB6.out.size HB7.out⟩
          | true =>
            by_cases hp : p < 4096
            · have hdp : decide (p < 4096) = true := by simpa using hp
              have HBN : Hid (buildL ws zs = (buildL ws (zs.drop (j + 1))).map ((os ++ [⟨p, ls⟩]) ++ ·)) := Lib.hid (by
                rw [HBL.out, HD.out, buildL, HLS2.out, if_pos rfl, if_pos hp, Option.map_map]
                congr 1
                funext r
                simp)
              have HLN : Hid ((os.length + 1) * 16 ≤ 140737488355328) := Lib.hid (by have := HOS.out; have := HPC.out; have := H64.out; omega)
              clear hp
              go_wp2_with (first | ((with_reducible refine gate_builtin (b := .append) (xs := #[.tmp 54, .tmp 58]) rfl ?_); at_builtin; refine Kd.R_append k82 (w0 := w6) w6.heap.size rfl (.tmp 54) (.tmp 58) 50 82 (.agg #[.int .i64 0, .int .i64 0]) 16 rfl Try.underlying50 info82 rfl (by decide) (by omega) (.slice Ao os.length co) os ⟨p, ls⟩ [.int .i64 p, .int .i64 ls] (fun _ => True) (fun _ => False) rfl rfl ?aP (fun _ hk => hk.elim) ?aF ?aO ?aB ?aS ?aL ?_; (case aP => exact k82_mkM _ _ _ ⟨p, ls⟩); (case aF => exact (fun _ _ => trivial)); (case aO => exact HV7.out); (case aB => exact HB7.out); (case aS => exact HB7.out.size); (case aL => exact HLN.out); intro v8 w8 ho8 hb8 hg8 _; have HO8 := Lib.hid ho8; have HB8 := Lib.hid hb8; clear ho8 hb8 hg8))
              go_roundw
              case rel => exact ⟨j + 1, os ++ [⟨p, ls⟩], by go_num, by omega, by have := HOS.out; simp; omega, HBN.out, HO8.out, HB8.out⟩
              case measure => simp [intOf]; omega
            · have hdp : decide (p < 4096) = false := by simpa using hp
              have HBN : Hid (buildL ws zs = (buildL ws (zs.drop (j + 1))).map (os ++ ·)) := Lib.hid (by
                rw [HBL.out, HD.out, buildL, HLS2.out, if_pos rfl, if_neg hp])
              clear hp
              go_wp2
              go_roundw
              case rel => exact ⟨j + 1, os, by go_num, by omega, by have := HOS.out; omega, HBN.out, HV7.out, HB7.out⟩
              case measure => simp [intOf]; omega
        · have hd : decide ((j : Int) < (zs.length : Int)) = false := by simpa using hlj
          have hbs : buildL ws zs = some os := by rw [HBL.out, List.drop_of_length_le (by omega), buildL]; simp
          have HFF : Hid (F = (tidyF os, 0)) := Lib.hid (by rw [HFA.out, hbs]; rfl)
          obtain ⟨g9, cap9, e9⟩ := row_some (n := 0) (cap := 0) HV.out (HFS.out os hbs)
          injection e9 with e91 e92 e93
          subst e91 e93
          have HTY := Lib.hid (tidy_is g9 os.length co w6.heap.size os wr HV.out HBB.out.size (by have := HOS.out; have := HPC.out; have := H64.out; omega))
          clear hbs e92
          go_wp2_with fail
          refine HTY.out.mono ?_
          rintro e w4 ⟨v4, rfl, hm4, hb4⟩
          have HM4 := Lib.hid (hm4.lower (b := w.heap.size) HB6.out.size)
          have HB4 := Lib.hid (HBB.out.trans hb4)
          clear hm4 hb4
          go_wp2
          exact bodyPost_ret (v := .tuple #[v4, .int .i64 0]) (by simp [results, Try.results41, go_sem]) rfl ⟨v4, by rw [HFF.out], by rw [HFF.out]; exact Or.inr HM4.out, below_then HB6.out HB6.out.size HB4.out⟩
end Go.Proofs.Ytbacdpagpdmkoaa.Man
