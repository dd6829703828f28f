/- Profiles as functions of the instant: one that may be is told by its loads; Build, in plain words, is the reference's. -/
import Derived.Test.YtbacdpagpdmkoaaProfQ3
set_option linter.unusedVariables false
set_option linter.unusedSimpArgs false
namespace Go.Proofs.Ytbacdpagpdmkoaa.Man
open Go.RowKit Go.Proofs.Ytbacdpagpdmkoaa.QT Go.Proofs.YtbacdpagpdmkoaaW.PrintWords Go.Proofs.YtbacdpagpdmkoaaW.PrintLast Go.Proofs.YtbacdpagpdmkoaaW.PrintMore

/-! ### Rows that rise -/
theorem rising_eq : ∀ (xs ys : List Int), xs.Pairwise (· < ·) → ys.Pairwise (· < ·) → (∀ z, z ∈ xs ↔ z ∈ ys) → xs = ys
  | [], [], _, _, _ => rfl
  | [], y :: ys, _, _, h => by have := (h y).2 List.mem_cons_self; cases this
  | x :: xs, [], _, _, h => by have := (h x).1 List.mem_cons_self; cases this
  | x :: xs, y :: ys, hx, hy, h => by
    have hx1 := (List.pairwise_cons.1 hx).1
    have hy1 := (List.pairwise_cons.1 hy).1
    have he : x = y := by
      rcases List.mem_cons.1 ((h x).1 List.mem_cons_self) with e | e
      · exact e
      · rcases List.mem_cons.1 ((h y).2 List.mem_cons_self) with e2 | e2
        · exact e2.symm
        · have := hy1 x e; have := hx1 y e2; omega
    subst he
    rw [rising_eq xs ys (List.pairwise_cons.1 hx).2 (List.pairwise_cons.1 hy).2 (fun z => ⟨fun hz => by
      rcases List.mem_cons.1 ((h z).1 (List.mem_cons_of_mem _ hz)) with e | e
      · subst e; have := hx1 z hz; omega
      · exact e, fun hz => by
      rcases List.mem_cons.1 ((h z).2 (List.mem_cons_of_mem _ hz)) with e | e
      · subst e; have := hy1 z hz; omega
      · exact e⟩)]
theorem secs_mem : ∀ (n k : Nat) (z : Int), z ∈ secs k n ↔ (k : Int) ≤ z ∧ z < (k : Int) + n
  | 0, k, z => by simp only [secs, List.not_mem_nil, false_iff]; omega
  | n + 1, k, z => by
    rw [secs, List.mem_cons, secs_mem n (k + 1) z]
    omega
theorem secs_rising : ∀ (n k : Nat), (secs k n).Pairwise (· < ·)
  | 0, k => List.Pairwise.nil
  | n + 1, k => List.pairwise_cons.2 ⟨fun z hz => by have := (secs_mem n (k + 1) z).1 hz; omega, secs_rising n (k + 1)⟩

/-! ### Equal loads left out -/
theorem tdF_last : ∀ (xs : List Rn) (p : Rn), ((p :: tdF p.f1 xs).getLast (List.cons_ne_nil _ _)).f1 = ((p :: xs).getLast (List.cons_ne_nil _ _)).f1
  | [], p => rfl
  | x :: r, p => by
    rw [tdF]
    by_cases h : x.f1 = p.f1
    · have ih := tdF_last r p
      rw [if_pos h]
      rw [ih]
      cases r with
      | nil => show p.f1 = x.f1; exact h.symm
      | cons y s => rfl
    · rw [if_neg h]
      exact tdF_last r x
theorem tidyF_last (xs : List Rn) (h : xs ≠ []) : ∃ y, (tidyF xs).getLast? = some y ∧ y.f1 = (xs.getLast h).f1 := by
  cases xs with
  | nil => exact absurd rfl h
  | cons x r =>
    refine ⟨(x :: tdF x.f1 r).getLast (List.cons_ne_nil _ _), ?_, tdF_last r x⟩
    rw [tidyF, List.getLast?_eq_some_getLast]
theorem tidyF_snoc (xs : List Rn) (y : Rn) : tidyF (xs ++ [y]) = putF (tidyF xs) y.f0 y.f1 := by
  cases xs with
  | nil => rfl
  | cons x r =>
    obtain ⟨z, hz, hz1⟩ := tidyF_last (x :: r) (by simp)
    unfold putF
    rw [hz]
    show x :: tdF x.f1 (r ++ [y]) = _
    rw [tdF_snoc]
    have hl : (r.getLastD x).f1 = z.f1 := by
      rw [hz1]
      cases r with
      | nil => rfl
      | cons a s => rw [List.getLastD_eq_getLast?, List.getLast?_eq_some_getLast (by simp)]; rfl
    rw [hl]
    show _ = if z.f1 = y.f1 then tidyF (x :: r) else tidyF (x :: r) ++ [⟨y.f0, y.f1⟩]
    by_cases h : y.f1 = z.f1
    · rw [if_pos h, if_pos h.symm, List.append_nil]; rfl
    · rw [if_neg h, if_neg (fun e : z.f1 = y.f1 => h e.symm)]; rfl
def putAll (out xs : List Rn) : List Rn := xs.foldl (fun o x => putF o x.f0 x.f1) out
theorem putAll_tidy : ∀ (xs pre : List Rn), putAll (tidyF pre) xs = tidyF (pre ++ xs)
  | [], pre => by rw [List.append_nil]; rfl
  | x :: r, pre => by
    show putAll (putF (tidyF pre) x.f0 x.f1) r = _
    rw [← tidyF_snoc, putAll_tidy r (pre ++ [x]), List.append_assoc]
    rfl
theorem putAll_nil (xs : List Rn) : putAll [] xs = tidyF xs := putAll_tidy xs []

/-! ### Sums -/
theorem sumR_app (acc x : Int) (h : rateF acc = true) (hx : rateF x = true) (hs : x ≤ 4611686018427387904 - acc) : sumR 0 [acc, x] = (acc + x, true) := by
  have h1 := rate_bounds h
  have h2 := rate_bounds hx
  rw [sumR, if_pos ⟨h, by omega⟩, sumR, if_pos ⟨hx, by omega⟩, sumR]
  simp
theorem sum_one (x : Int) (hx : rateF x = true) : sumR 0 [x] = (x, true) := by
  have h2 := rate_bounds hx
  rw [sumR, if_pos ⟨hx, by omega⟩, sumR]
  simp
theorem with_step (acc x : Int) (h : rateF acc = true) : withR acc [x] = if rateF x = true ∧ x ≤ 4611686018427387904 - acc then (acc + x, true) else (0, false) := by
  unfold withR
  by_cases hx : rateF x = true
  · rw [sum_one x hx, if_pos rfl]
    by_cases hs : x ≤ 4611686018427387904 - acc
    · rw [if_pos ⟨hx, hs⟩, sumR_app acc x h hx hs]
    · rw [if_neg (fun c => hs c.2)]
      have h1 := rate_bounds h
      rw [sumR, if_pos ⟨h, by omega⟩, sumR, if_neg (fun c => hs (by have := c.2; omega))]
  · have : (sumR 0 [x]).2 = false := by rw [sumR, if_neg (fun c => hx c.1)]
    rw [this, if_neg Bool.false_ne_true, if_neg (fun c => hx c.1)]
theorem rate_add {acc x : Int} (h : rateF acc = true) (hx : rateF x = true) (hs : x ≤ 4611686018427387904 - acc) : rateF (acc + x) = true := by
  have h1 := rate_bounds h
  have h2 := rate_bounds hx
  unfold rateF
  simp only [Bool.and_eq_true, decide_eq_true_eq]
  omega
theorem wsum_in (t : Int) : ∀ (ws : List Wt) (acc : Int), rateF acc = true → wsumR t acc ws = sumR acc (inW t ws)
  | [], acc, _ => rfl
  | x :: r, acc, h => by
    rw [wsumR, inW]
    by_cases hh : hasF x.f0.f0 x.f0.f1 t = true
    · rw [if_pos hh, if_pos hh, sumR, with_step acc x.f1 h]
      by_cases hs : rateF x.f1 = true ∧ x.f1 ≤ 4611686018427387904 - acc
      · rw [if_pos hs, if_pos rfl, if_pos hs]
        exact wsum_in t r _ (rate_add h hs.1 hs.2)
      · rw [if_neg hs, if_neg Bool.false_ne_true, if_neg hs]
    · rw [if_neg hh, if_neg hh]
      exact wsum_in t r acc h
theorem wsum_sumW (t : Int) (ws : List Wt) : wsumR t 0 ws = sumW t ws := wsum_in t ws 0 rfl

/-! ### Build -/
theorem build_put (ws : List Wt) : ∀ (ps : List Int) (pre : List Rn), (∀ p ∈ ps, p < 4096) → (∀ p ∈ ps, 0 < p → turnsF p ws = true) →
    rbL ws (tidyF pre) ps = (buildL ws ps).map (fun o => tidyF (pre ++ o))
  | [], pre, _, _ => by simp [rbL, buildL]
  | p :: r, pre, h1, h2 => by
    have hp := h1 p List.mem_cons_self
    rw [rbL, buildL, if_neg (fun c => by rw [h2 p List.mem_cons_self c.1] at c; exact absurd c.2 (by decide)), wsum_sumW]
    by_cases hs : (sumW p ws).2 = true
    · rw [if_pos hs, if_pos hs, if_pos hp]
      have := build_put ws r (pre ++ [⟨p, (sumW p ws).1⟩]) (fun q hq => h1 q (List.mem_cons_of_mem _ hq)) (fun q hq => h2 q (List.mem_cons_of_mem _ hq))
      rw [tidyF_snoc] at this
      rw [this, Option.map_map]
      congr 1
      funext o
      simp
    · rw [if_neg hs, if_neg hs]
      rfl
theorem rb_filter (ws : List Wt) : ∀ (ts : List Int) (out : List Rn), rbL ws out ts = rbL ws out (ts.filter fun t => !(decide (0 < t) && !turnsF t ws))
  | [], out => rfl
  | t :: r, out => by
    by_cases h : 0 < t ∧ turnsF t ws = false
    · rw [rbL, if_pos h, List.filter_cons_of_neg (by simp [h.1, h.2])]
      exact rb_filter ws r out
    · have hf : (!(decide (0 < t) && !turnsF t ws)) = true := by
        by_cases h0 : 0 < t
        · have : turnsF t ws = true := by cases hh : turnsF t ws <;> simp_all
          simp [this]
        · simp [h0]
      rw [List.filter_cons_of_pos (p := fun t => !(decide (0 < t) && !turnsF t ws)) hf, rbL, if_neg h, rbL, if_neg h]
      split
      · exact rb_filter ws r _
      · rfl
theorem turnsF_iff (t : Int) : ∀ ws : List Wt, turnsF t ws = true ↔ t ∈ ptsOf ws
  | [] => by simp [turnsF, ptsOf]
  | x :: r => by
    have ih := turnsF_iff t r
    unfold ptsOf at ih ⊢
    rw [turnsF, List.flatMap_cons, List.mem_append]
    by_cases h : x.f0.f0 = t ∨ x.f0.f1 = t
    · rw [if_pos h]
      refine ⟨fun _ => Or.inl ?_, fun _ => rfl⟩
      rcases h with h | h <;> simp [h]
    · rw [if_neg h, ih]
      refine ⟨Or.inr, fun hh => hh.elim (fun hh => ?_) id⟩
      simp at hh
      exact absurd (hh.imp Eq.symm Eq.symm) h
theorem sum_none {t : Int} : ∀ {ws : List Wt}, (∀ x ∈ ws, hasF x.f0.f0 x.f0.f1 t = false) → sumW t ws = (0, true) := by
  intro ws h
  have : inW t ws = [] := by
    induction ws with
    | nil => rfl
    | cons x r ih =>
      rw [inW, if_neg (by rw [h x List.mem_cons_self]; exact Bool.false_ne_true)]
      exact ih (fun y hy => h y (List.mem_cons_of_mem _ hy))
  unfold sumW
  rw [this]
  rfl
theorem build_below (ws : List Wt) : ∀ ps : List Int, (∀ p ∈ ps, 4096 ≤ p → (sumW p ws).2 = true) → buildL ws ps = buildL ws (ps.filter fun p => decide (p < 4096))
  | [], _ => rfl
  | p :: r, h => by
    have ih := build_below ws r (fun q hq => h q (List.mem_cons_of_mem _ hq))
    by_cases hp : p < 4096
    · rw [List.filter_cons_of_pos (by simpa using hp), buildL, buildL, ih]
    · rw [List.filter_cons_of_neg (by simpa using hp), buildL, wsum_sumW, if_pos (h p List.mem_cons_self (by omega)), if_neg hp]
      exact ih
theorem wOK_span {x : Wt} (h : wOK x = true) : 0 ≤ x.f0.f0 ∧ x.f0.f0 < x.f0.f1 ∧ x.f0.f1 ≤ 4096 ∧ rateF x.f1 = true := by
  unfold wOK wmayF at h
  simp only [Bool.and_eq_true] at h
  have := mayF_true.1 h.1
  exact ⟨this.1, this.2.1, this.2.2, h.2⟩
theorem build_rbuild (ws : List Wt) : buildR ws = rbuildR ws 4096 := by
  unfold buildR rbuildR
  by_cases h : ws.length ≤ 64 ∧ ws.all wOK = true
  case neg => rw [if_neg h, if_neg h]
  rw [if_pos h, if_pos h]
  have hw : ∀ x ∈ ws, wOK x = true := by
    have := h.2
    rw [List.all_eq_true] at this
    exact this
  have hpts : ∀ z, z ∈ uniqF (sortF (0 :: ptsOf ws)) ↔ z = 0 ∨ z ∈ ptsOf ws := fun z => by rw [uniqF_mem, sortF_mem, List.mem_cons]
  have hpos : ∀ z ∈ ptsOf ws, 0 ≤ z ∧ z ≤ 4096 := by
    intro z hz
    unfold ptsOf at hz
    rw [List.mem_flatMap] at hz
    obtain ⟨x, hx, hz⟩ := hz
    have := wOK_span (hw x hx)
    simp at hz
    omega
  have hlate : ∀ p ∈ uniqF (sortF (0 :: ptsOf ws)), 4096 ≤ p → (sumW p ws).2 = true := by
    intro p hp h4
    rw [sum_none]
    intro x hx
    have := wOK_span (hw x hx)
    cases hh : hasF x.f0.f0 x.f0.f1 p with
    | false => rfl
    | true => have := (hasF_true.1 hh).2; omega
  have heq : (uniqF (sortF (0 :: ptsOf ws))).filter (fun p => decide (p < 4096)) = (secs 0 4096).filter (fun t => !(decide (0 < t) && !turnsF t ws)) := by
    apply rising_eq
    · exact (uniqF_strict _ (sortF_rising _)).filter _
    · exact (secs_rising 4096 0).filter _
    · intro z
      rw [List.mem_filter, List.mem_filter, hpts, secs_mem]
      have ht := turnsF_iff z ws
      constructor
      · rintro ⟨h1, h2⟩
        have h2' : z < 4096 := by simpa using h2
        rcases h1 with rfl | h1
        · exact ⟨⟨by omega, by omega⟩, by simp⟩
        · have := hpos z h1
          exact ⟨⟨by omega, by omega⟩, by simp [ht.2 h1]⟩
      · rintro ⟨⟨h1, h2⟩, h3⟩
        refine ⟨?_, by simp; omega⟩
        by_cases h0 : 0 < z
        · right
          apply ht.1
          cases hh : turnsF z ws with
          | true => rfl
          | false => rw [hh] at h3; simp [h0] at h3
        · left; omega
  rw [build_below ws _ hlate, heq, rb_filter ws (secs 0 4096)]
  have hmem : ∀ p ∈ (secs 0 4096).filter (fun t => !(decide (0 < t) && !turnsF t ws)), p < 4096 ∧ (0 < p → turnsF p ws = true) := by
    intro p hp
    obtain ⟨h1, h3⟩ := List.mem_filter.1 hp
    have := (secs_mem 4096 0 p).1 h1
    refine ⟨by omega, fun h0 => ?_⟩
    cases hh : turnsF p ws with
    | true => rfl
    | false => rw [hh] at h3; simp [h0] at h3
  have := build_put ws ((secs 0 4096).filter (fun t => !(decide (0 < t) && !turnsF t ws))) [] (fun p hp => (hmem p hp).1) (fun p hp => (hmem p hp).2)
  rw [show rbL ws [] = rbL ws (tidyF []) from rfl, this]
  cases buildL ws ((secs 0 4096).filter (fun t => !(decide (0 < t) && !turnsF t ws))) <;> rfl
end Go.Proofs.Ytbacdpagpdmkoaa.Man
