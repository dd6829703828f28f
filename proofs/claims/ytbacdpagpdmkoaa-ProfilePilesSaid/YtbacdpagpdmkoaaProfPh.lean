/- The laws ProfileBack, ProfilePiles, ProfileTops in plain words. -/
import Derived.Test.YtbacdpagpdmkoaaProfPg
set_option linter.unusedVariables false
set_option linter.unusedSimpArgs false
namespace Go.Proofs.Ytbacdpagpdmkoaa.Man
open Go.RowKit Go.Proofs.Ytbacdpagpdmkoaa.QT Go.Proofs.YtbacdpagpdmkoaaW.PrintWords Go.Proofs.YtbacdpagpdmkoaaW.PrintLast Go.Proofs.YtbacdpagpdmkoaaW.PrintMore

/-! ### Back -/
theorem add_val {l load : Int} (h1 : rateF load = true) (h2 : rateF l = true) : (addT l load).2 = true ↔ load ≤ 4611686018427387904 - l := by
  rw [addT_is l load h1 h2]
  split
  · rename_i h; exact ⟨fun e => absurd e Bool.false_ne_true, fun e => by omega⟩
  · rename_i h; exact ⟨fun _ => by omega, fun _ => rfl⟩
theorem add_fst {l load : Int} (h1 : rateF load = true) (h2 : rateF l = true) (h : (addT l load).2 = true) : (addT l load).1 = load + l := by
  have := (add_val h1 h2).1 h
  rw [addT_is l load h1 h2, if_neg (by omega)]
theorem keeps_add {l : Int} (hl : rateF l = true) : Keeps (addT l) := fun load h1 h2 => by
  rw [add_fst h1 hl h2]
  have g := (add_val h1 hl).1 h2
  have g1 := rate_bounds h1
  have g2 := rate_bounds hl
  unfold rateF
  simp only [Bool.and_eq_true, decide_eq_true_eq]
  omega
theorem keeps_take {l : Int} (hl : rateF l = true) : Keeps (takeT l) := fun load h1 h2 => by
  unfold takeT at h2 ⊢
  have g : l ≤ load := by simpa using h2
  have g1 := rate_bounds h1
  have g2 := rate_bounds hl
  unfold rateF
  simp only [Bool.and_eq_true, decide_eq_true_eq]
  omega
theorem turn_ok {rs : List Rn} {a b l code : Int} {turn : Int → Int × Bool} (h : (turnR rs a b l code turn).2 = 0) (hc : code ≠ 0) : mayR rs = true ∧ wmayF a b l = true := by
  unfold turnR at h
  by_cases hh : mayR rs = true ∧ wmayF a b l = true
  · exact hh
  · rw [if_neg hh] at h
    exact absurd h (by decide)
theorem wmay_rate {a b l : Int} (h : wmayF a b l = true) : rateF l = true := by
  unfold wmayF at h
  simp only [Bool.and_eq_true] at h
  exact h.2
theorem loads_rate {rs : List Rn} (hm : mayR rs = true) (t : Int) : rateF (atL t 0 rs) = true := atL_rate t rs 0 rfl (fun x hx => (may_rates hm x hx).2)
theorem add_back (rs : List Rn) (a b l : Int) (h : (turnR rs a b l 1801 (addT l)).2 = 0) : turnR (turnR rs a b l 1801 (addT l)).1 a b l 1802 (takeT l) = (rs, 0) := by
  obtain ⟨hm, hw⟩ := turn_ok h (by decide)
  have hl := wmay_rate hw
  obtain ⟨hq, hat⟩ := (turn_char rs a b l 1801 (addT l) (keeps_add hl) hm hw (by decide)).1 h
  obtain ⟨q, hqe⟩ : ∃ q, (turnR rs a b l 1801 (addT l)).1 = q := ⟨_, rfl⟩
  rw [hqe] at hq hat ⊢
  obtain ⟨c1, c2⟩ := turn_char q a b l 1802 (takeT l) (keeps_take hl) hq hw (by decide)
  have hval : ∀ s, 0 ≤ s → s < 4096 → hasF a b s = true → atL s 0 q = atL s 0 rs + l := fun s h0 h4 hh => by
    obtain ⟨e1, e2⟩ := hat s h0 h4
    rw [e2, if_pos hh, add_fst (loads_rate hm s) hl (e1 hh)]
  have hok : (turnR q a b l 1802 (takeT l)).2 = 0 := c2 (fun s h0 h4 hh => by
    have g := rate_bounds (loads_rate hm s)
    rw [hval s h0 h4 hh]
    unfold takeT
    simp
    omega)
  obtain ⟨hr, har⟩ := c1 hok
  have : (turnR q a b l 1802 (takeT l)).1 = rs := canon hr hm (fun s h0 h4 => by
    obtain ⟨e1, e2⟩ := har s h0 h4
    rw [e2]
    by_cases hh : hasF a b s = true
    · rw [if_pos hh, hval s h0 h4 hh]
      show atL s 0 rs + l - l = _
      omega
    · rw [if_neg hh, (hat s h0 h4).2, if_neg hh])
  rw [← this, ← hok]
theorem take_back (rs : List Rn) (a b l : Int) (h : (turnR rs a b l 1802 (takeT l)).2 = 0) : turnR (turnR rs a b l 1802 (takeT l)).1 a b l 1801 (addT l) = (rs, 0) := by
  obtain ⟨hm, hw⟩ := turn_ok h (by decide)
  have hl := wmay_rate hw
  obtain ⟨hq, hat⟩ := (turn_char rs a b l 1802 (takeT l) (keeps_take hl) hm hw (by decide)).1 h
  obtain ⟨q, hqe⟩ : ∃ q, (turnR rs a b l 1802 (takeT l)).1 = q := ⟨_, rfl⟩
  rw [hqe] at hq hat ⊢
  obtain ⟨c1, c2⟩ := turn_char q a b l 1801 (addT l) (keeps_add hl) hq hw (by decide)
  have hval : ∀ s, 0 ≤ s → s < 4096 → hasF a b s = true → atL s 0 q = atL s 0 rs - l ∧ l ≤ atL s 0 rs := fun s h0 h4 hh => by
    obtain ⟨e1, e2⟩ := hat s h0 h4
    have := e1 hh
    unfold takeT at this e2
    exact ⟨by rw [e2, if_pos hh], by simpa using this⟩
  have hadd : ∀ s, 0 ≤ s → s < 4096 → hasF a b s = true → (addT l (atL s 0 q)).2 = true := fun s h0 h4 hh => by
    have g := rate_bounds (loads_rate hm s)
    have v := hval s h0 h4 hh
    exact (add_val (loads_rate hq s) hl).2 (by omega)
  have hok := c2 hadd
  obtain ⟨hr, har⟩ := c1 hok
  have : (turnR q a b l 1801 (addT l)).1 = rs := canon hr hm (fun s h0 h4 => by
    obtain ⟨e1, e2⟩ := har s h0 h4
    rw [e2]
    by_cases hh : hasF a b s = true
    · have v := hval s h0 h4 hh
      rw [if_pos hh, add_fst (loads_rate hq s) hl (hadd s h0 h4 hh)]
      omega
    · rw [if_neg hh, (hat s h0 h4).2, if_neg hh])
  rw [← this, ← hok]

/-! ### Tops -/
theorem loadAt_run {rs : List Rn} (hm : mayR rs = true) {t : Int} (ht : 0 ≤ t) : ∃ (k : Nat) (h : k < rs.length), cnt rs t = k + 1 ∧ loadAt rs t = rs[k].f1 := by
  have hp := cnt_pos hm ht
  have hP := parts_cnt rs t (may_rise hm)
  have hl := hP.1
  refine ⟨cnt rs t - 1, by omega, by omega, ?_⟩
  unfold loadAt
  rw [show ((cnt rs t : Int) - 1) = ((cnt rs t - 1 : Nat) : Int) by omega, rdR_at rs _ (by omega)]
theorem cnt_mono {rs : List Rn} (hr : Rise rs) {s t : Int} (h : s ≤ t) : cnt rs s ≤ cnt rs t := by
  have hs := parts_cnt rs s hr
  have ht := parts_cnt rs t hr
  exact Classical.byContradiction fun hn => by
    have h1 := hs.1
    have h2 := hs.2.1 (cnt rs t) (by omega) (by omega)
    have h3 := ht.2.2 (cnt rs t) (by omega) (Nat.le_refl _)
    omega
theorem top_inv (rs : List Rn) (a b : Int) (hm : mayR rs = true) (ha : 0 ≤ a) (hab : a < b) : ∀ (d m : Nat) (p : Int × Int), m + d = rs.length → cnt rs a ≤ m →
    (p.1 = loadAt rs p.2 ∧ a ≤ p.2 ∧ p.2 < b ∧ ∀ t, a ≤ t → t < b → (cnt rs t ≤ m → loadAt rs t ≤ p.1 ∧ (loadAt rs t < p.1 ∨ p.2 ≤ t)) ∧ (m < cnt rs t → p.2 ≤ t)) →
    (topM b p (rs.drop m)).1 = loadAt rs (topM b p (rs.drop m)).2 ∧ a ≤ (topM b p (rs.drop m)).2 ∧ (topM b p (rs.drop m)).2 < b ∧ ∀ t, a ≤ t → t < b → loadAt rs t ≤ (topM b p (rs.drop m)).1 ∧ (loadAt rs t < (topM b p (rs.drop m)).1 ∨ (topM b p (rs.drop m)).2 ≤ t)
  | 0, m, p, hd, hc, h => by
    rw [List.drop_of_length_le (by omega)]
    refine ⟨h.1, h.2.1, h.2.2.1, fun t h1 h2 => ?_⟩
    have := (parts_cnt rs t (may_rise hm)).1
    exact ((h.2.2.2 t h1 h2).1 (by omega))
  | d + 1, m, p, hd, hc, h => by
    have hml : m < rs.length := by omega
    rw [List.drop_eq_getElem_cons hml]
    show (topM b (stepM b p rs[m]) (rs.drop (m + 1))).1 = loadAt rs (topM b (stepM b p rs[m]) (rs.drop (m + 1))).2 ∧ _
    have hr := may_rise hm
    have hPa := parts_cnt rs a hr
    have ham : a < rs[m].f0 := hPa.2.2 m hml hc
    -- the load where the run m lasts
    have hlast : ∀ t, cnt rs t = m + 1 → loadAt rs t = rs[m].f1 := fun t ht => by
      unfold loadAt
      rw [ht, show ((m + 1 : Nat) : Int) - 1 = (m : Int) by omega, rdR_at rs m hml]
    have hbeg : ∀ t, m + 1 ≤ cnt rs t ↔ rs[m].f0 ≤ t := fun t => by
      have hP := parts_cnt rs t hr
      constructor
      · intro h1
        exact hP.2.1 m hml (by omega)
      · intro h1
        exact Classical.byContradiction fun hn => by have := hP.2.2 m hml (by omega); omega
    refine top_inv rs a b hm ha hab d (m + 1) _ (by omega) (by omega) ?_
    unfold stepM
    by_cases hs : rs[m].f0 < b ∧ p.1 < rs[m].f1
    · rw [if_pos hs]
      have hself : cnt rs rs[m].f0 = m + 1 := cnt_at hr _ m hml (Int.le_refl _) (fun h' => rise_lt hr m (m + 1) h' (by omega))
      refine ⟨(hlast _ hself).symm, by show a ≤ rs[m].f0; omega, hs.1, fun t h1 h2 => ⟨fun h3 => ?_, fun h3 => ?_⟩⟩
      · rcases Nat.lt_or_ge (cnt rs t) (m + 1) with h4 | h4
        · have := (h.2.2.2 t h1 h2).1 (by omega)
          exact ⟨by show loadAt rs t ≤ rs[m].f1; omega, Or.inl (by show loadAt rs t < rs[m].f1; omega)⟩
        · have e := hlast t (by omega)
          exact ⟨by show loadAt rs t ≤ rs[m].f1; omega, Or.inr ((hbeg t).1 h4)⟩
      · exact (hbeg t).1 (by omega)
    · rw [if_neg hs]
      refine ⟨h.1, h.2.1, h.2.2.1, fun t h1 h2 => ⟨fun h3 => ?_, fun h3 => (h.2.2.2 t h1 h2).2 (by omega)⟩⟩
      rcases Nat.lt_or_ge (cnt rs t) (m + 1) with h4 | h4
      · exact (h.2.2.2 t h1 h2).1 (by omega)
      · have e := hlast t (by omega)
        have hb := (hbeg t).1 h4
        have hle : ¬ p.1 < rs[m].f1 := fun hlt => hs ⟨by omega, hlt⟩
        exact ⟨by omega, Or.inr ((h.2.2.2 t h1 h2).2 (by omega))⟩
theorem tops (rs : List Rn) (a b t : Int) (h : (mostF rs a b).2.2 = 0) (ht : hasF a b t = true) :
    atF rs t = (loadAt rs t, 0) ∧ atF rs (mostF rs a b).2.1 = ((mostF rs a b).1, 0) ∧ loadAt rs t ≤ (mostF rs a b).1 ∧ hasF a b (mostF rs a b).2.1 = true ∧ (loadAt rs t < (mostF rs a b).1 ∨ (mostF rs a b).2.1 ≤ t) := by
  unfold mostF at h ⊢
  by_cases hh : mayR rs = true ∧ mayF a b = true
  case neg => rw [if_neg hh] at h; exact absurd h (by decide)
  rw [if_pos hh]
  obtain ⟨hm, hs⟩ := hh
  have hab := mayF_true.1 hs
  obtain ⟨_, ht1, ht2⟩ := hasF_true.1 ht
  obtain ⟨h1, h2, h3, h4⟩ := top_inv rs a b hm hab.1 hab.2.1 (rs.length - cnt rs a) (cnt rs a) (loadAt rs a, a) (by have := (parts_cnt rs a (may_rise hm)).1; omega) (Nat.le_refl _)
    ⟨rfl, Int.le_refl _, hab.2.1, fun s g1 g2 => ⟨fun g3 => by
      have : cnt rs s = cnt rs a := Nat.le_antisymm g3 (cnt_mono (may_rise hm) g1)
      have e : loadAt rs s = loadAt rs a := by unfold loadAt; rw [this]
      exact ⟨by show loadAt rs s ≤ loadAt rs a; omega, Or.inr g1⟩, fun _ => g1⟩⟩
  have hat : ∀ s, a ≤ s → s < b → atF rs s = (loadAt rs s, 0) := fun s g1 g2 => by
    unfold atF
    rw [if_pos ⟨hm, by omega, by omega⟩]
  refine ⟨hat t ht1 ht2, ?_, (h4 t ht1 ht2).1, hasF_true.2 ⟨hs, h2, h3⟩, (h4 t ht1 ht2).2⟩
  rw [hat _ h2 h3]
  show (loadAt rs (topM b (loadAt rs a, a) (rs.drop (cnt rs a))).2, (0 : Int)) = ((topM b (loadAt rs a, a) (rs.drop (cnt rs a))).1, 0)
  rw [← h1]

/-! ### Piles -/
theorem sumR_char : ∀ (xs : List Int) (acc : Int), 0 ≤ acc → acc ≤ 4611686018427387904 → sumR acc xs = if (∀ x ∈ xs, rateF x = true) ∧ acc + xs.sum ≤ 4611686018427387904 then (acc + xs.sum, true) else (0, false)
  | [], acc, h0, h1 => by rw [sumR, if_pos ⟨fun x hx => (by cases hx), by simpa using h1⟩]; simp
  | x :: r, acc, h0, h1 => by
    have hnn : ∀ ys : List Int, (∀ y ∈ ys, rateF y = true) → 0 ≤ ys.sum := by
      intro ys
      induction ys with
      | nil => intro _; exact Int.le_refl _
      | cons y s ih =>
        intro h
        have g1 := rate_bounds (h y List.mem_cons_self)
        have g2 := ih (fun z hz => h z (List.mem_cons_of_mem _ hz))
        rw [List.sum_cons]
        omega
    rw [sumR, List.sum_cons]
    by_cases hx : rateF x = true ∧ x ≤ 4611686018427387904 - acc
    · have g := rate_bounds hx.1
      rw [if_pos hx, sumR_char r (acc + x) (by omega) (by omega)]
      by_cases hr : (∀ y ∈ r, rateF y = true) ∧ acc + x + r.sum ≤ 4611686018427387904
      · rw [if_pos hr, if_pos ⟨fun y hy => by
          rcases List.mem_cons.1 hy with rfl | hy
          · exact hx.1
          · exact hr.1 y hy, by have := hr.2; omega⟩, Int.add_assoc]
      · rw [if_neg hr, if_neg (fun c => hr ⟨fun y hy => c.1 y (List.mem_cons_of_mem _ hy), by have := c.2; omega⟩)]
    · rw [if_neg hx, if_neg (fun c => hx ⟨c.1 x List.mem_cons_self, by have := hnn r (fun y hy => c.1 y (List.mem_cons_of_mem _ hy)); have := c.2; omega⟩)]
theorem inW_append (t : Int) : ∀ (a b : List Wt), inW t (a ++ b) = inW t a ++ inW t b
  | [], b => rfl
  | x :: r, b => by
    rw [List.cons_append, inW, inW, inW_append t r b]
    split <;> rfl
theorem inW_rate (t : Int) : ∀ (ws : List Wt), (∀ x ∈ ws, wOK x = true) → ∀ y ∈ inW t ws, rateF y = true
  | [], _, y, h => by cases h
  | x :: r, hw, y, h => by
    rw [inW] at h
    have ih := inW_rate t r (fun z hz => hw z (List.mem_cons_of_mem _ hz))
    split at h
    · rcases List.mem_cons.1 h with rfl | h
      · exact (wOK_span (hw x List.mem_cons_self)).2.2.2
      · exact ih y h
    · exact ih y h
theorem sumW_ok (t : Int) (ws : List Wt) (hw : ∀ x ∈ ws, wOK x = true) : sumW t ws = if (inW t ws).sum ≤ 4611686018427387904 then ((inW t ws).sum, true) else (0, false) := by
  unfold sumW
  rw [sumR_char _ 0 (Int.le_refl _) (by omega)]
  by_cases h : (inW t ws).sum ≤ 4611686018427387904
  · rw [if_pos ⟨inW_rate t ws hw, by omega⟩, if_pos h]; simp
  · rw [if_neg (fun c => h (by have := c.2; omega)), if_neg h]
theorem inW_nonneg (t : Int) (ws : List Wt) (hw : ∀ x ∈ ws, wOK x = true) : 0 ≤ (inW t ws).sum := by
  have : ∀ ys : List Int, (∀ y ∈ ys, rateF y = true) → 0 ≤ ys.sum := by
    intro ys
    induction ys with
    | nil => intro _; exact Int.le_refl _
    | cons y s ih =>
      intro h
      have g1 := rate_bounds (h y List.mem_cons_self)
      have g2 := ih (fun z hz => h z (List.mem_cons_of_mem _ hz))
      rw [List.sum_cons]
      omega
  exact this _ (inW_rate t ws hw)
theorem buildL_some (ws : List Wt) : ∀ (ps : List Int) (o : List Rn), buildL ws ps = some o → (∀ p ∈ ps, p < 4096) → o = ps.map (fun t => (⟨t, (sumW t ws).1⟩ : Rn)) ∧ ∀ p ∈ ps, (sumW p ws).2 = true
  | [], o, h, _ => by rw [buildL] at h; injection h with h; subst h; exact ⟨rfl, fun p hp => by cases hp⟩
  | p :: r, o, h, h4 => by
    rw [buildL, wsum_sumW, if_pos (h4 p List.mem_cons_self)] at h
    split at h
    · rename_i hs
      cases hb : buildL ws r with
      | none => rw [hb] at h; cases h
      | some o' =>
        rw [hb] at h
        injection h with h
        obtain ⟨i1, i2⟩ := buildL_some ws r o' hb (fun q hq => h4 q (List.mem_cons_of_mem _ hq))
        subst h
        refine ⟨by rw [List.map_cons, ← i1], fun q hq => ?_⟩
        rcases List.mem_cons.1 hq with rfl | hq
        · exact hs
        · exact i2 q hq
    · cases h
theorem inW_same {ws : List Wt} {s z : Int} (h : ∀ x ∈ ws, hasF x.f0.f0 x.f0.f1 s = hasF x.f0.f0 x.f0.f1 z) : inW s ws = inW z ws := by
  induction ws with
  | nil => rfl
  | cons x r ih => rw [inW, inW, h x List.mem_cons_self, ih (fun y hy => h y (List.mem_cons_of_mem _ hy))]
theorem build_char (ws : List Wt) (h : (buildR ws).2 = 0) : (∀ x ∈ ws, wOK x = true) ∧ ws.length ≤ 64 ∧ mayR (buildR ws).1 = true ∧ ∀ s, 0 ≤ s → s < 4096 → sumW s ws = (atL s 0 (buildR ws).1, true) := by
  unfold buildR at h
  by_cases hc : ws.length ≤ 64 ∧ ws.all wOK = true
  case neg => rw [if_neg hc] at h; exact absurd h (by decide)
  rw [if_pos hc] at h
  have hw : ∀ x ∈ ws, wOK x = true := by
    have := hc.2
    rw [List.all_eq_true] at this
    exact this
  have hB : buildR ws = turnO (buildL ws (uniqF (sortF (0 :: ptsOf ws)))) 1801 := by unfold buildR; rw [if_pos hc]
  have hpts : ∀ z, z ∈ uniqF (sortF (0 :: ptsOf ws)) ↔ z = 0 ∨ z ∈ ptsOf ws := fun z => by rw [uniqF_mem, sortF_mem, List.mem_cons]
  have hpos : ∀ x ∈ ws, x.f0.f0 ∈ ptsOf ws ∧ x.f0.f1 ∈ ptsOf ws := fun x hx => by
    unfold ptsOf
    exact ⟨List.mem_flatMap.2 ⟨x, hx, by simp⟩, List.mem_flatMap.2 ⟨x, hx, by simp⟩⟩
  have hran : ∀ z ∈ ptsOf ws, 0 ≤ z ∧ z ≤ 4096 := by
    intro z hz
    unfold ptsOf at hz
    rw [List.mem_flatMap] at hz
    obtain ⟨x, hx, hz⟩ := hz
    have := wOK_span (hw x hx)
    simp at hz
    omega
  have hlate : ∀ p ∈ uniqF (sortF (0 :: ptsOf ws)), 4096 ≤ p → (sumW p ws).2 = true := by
    intro p hp h4
    rw [sum_none]
    intro x hx
    have := wOK_span (hw x hx)
    cases hh : hasF x.f0.f0 x.f0.f1 p with
    | false => rfl
    | true => have := (hasF_true.1 hh).2; omega
  rw [build_below ws _ hlate] at hB
  obtain ⟨ps, hps⟩ : ∃ ps, (uniqF (sortF (0 :: ptsOf ws))).filter (fun p => decide (p < 4096)) = ps := ⟨_, rfl⟩
  rw [hps] at hB
  have hpr : ps.Pairwise (· < ·) := by rw [← hps]; exact (uniqF_strict _ (sortF_rising _)).filter _
  have hpm : ∀ z, z ∈ ps ↔ (z = 0 ∨ z ∈ ptsOf ws) ∧ z < 4096 := fun z => by rw [← hps, List.mem_filter, hpts]; simp
  have hp0 : (0 : Int) ∈ ps := (hpm 0).2 ⟨Or.inl rfl, by omega⟩
  have h' : (buildR ws).2 = 0 := by unfold buildR; rw [if_pos hc]; exact h
  cases hb : buildL ws ps with
  | none => rw [hB, hb] at h'; exact absurd h' (by decide)
  | some o =>
    obtain ⟨h1, h2⟩ := buildL_some ws ps o hb (fun p hp => ((hpm p).1 hp).2)
    have hor : Rise o := by rw [h1]; exact List.pairwise_map.2 hpr
    have hrate : ∀ p ∈ ps, rateF (sumW p ws).1 = true := fun p hp => by
      have e := sumW_ok p ws hw
      have hn := inW_nonneg p ws hw
      have := h2 p hp
      rw [e] at this ⊢
      split at this
      · rename_i hle
        rw [if_pos hle]
        unfold rateF
        simp only [Bool.and_eq_true, decide_eq_true_eq]
        omega
      · exact absurd this Bool.false_ne_true
    have hobd : ∀ y ∈ o, y.f0 < 4096 ∧ rateF y.f1 = true := by
      intro y hy
      rw [h1] at hy
      obtain ⟨t, htm, rfl⟩ := List.mem_map.1 hy
      exact ⟨((hpm t).1 htm).2, hrate t htm⟩
    have hoh : ∃ x r, o = x :: r ∧ x.f0 = 0 := by
      cases hps2 : ps with
      | nil => rw [hps2] at hp0; cases hp0
      | cons z r =>
        rw [hps2] at h1 hp0 hpr
        refine ⟨_, _, by rw [h1, List.map_cons], ?_⟩
        show z = 0
        have hz0 := ((hpm z).1 (by rw [hps2]; exact List.mem_cons_self)).1
        rcases List.mem_cons.1 hp0 with e | e
        · exact e.symm
        · have := (List.pairwise_cons.1 hpr).1 0 e
          rcases hz0 with e2 | e2
          · exact e2
          · have := hran z e2; omega
    rw [hB, hb]
    refine ⟨hw, hc.1, ?_, fun s h0 h4 => ?_⟩
    · obtain ⟨x, r, hxr, hx0⟩ := hoh
      show mayR (tidyF o) = true
      rw [hxr] at hor hobd ⊢
      exact tidy_may hx0 hor hobd
    · obtain ⟨z, hz1, hz2, hz3, hz4⟩ := atL_map ps (fun t => (sumW t ws).1) hpr hp0 s h0
      have hz0 : 0 ≤ z := hz3 0 hp0 h0
      have hsame : inW s ws = inW z ws := inW_same (fun x hx => by
        have hsp := wOK_span (hw x hx)
        obtain ⟨q1, q2⟩ := hpos x hx
        rw [Bool.eq_iff_iff, hasF_true, hasF_true]
        constructor
        · rintro ⟨g1, g2, g3⟩
          have := hz3 x.f0.f0 ((hpm _).2 ⟨Or.inr q1, by omega⟩) g2
          exact ⟨g1, this, by omega⟩
        · rintro ⟨g1, g2, g3⟩
          refine ⟨g1, by omega, Classical.byContradiction fun hn => ?_⟩
          have := hz3 x.f0.f1 ((hpm _).2 ⟨Or.inr q2, by omega⟩) (by omega)
          omega)
      show sumW s ws = (atL s 0 (tidyF o), true)
      rw [tidy_atL s 0 o hor, h1, hz4]
      have : sumW s ws = sumW z ws := by unfold sumW; rw [hsame]
      rw [this]
      exact Prod.ext rfl (h2 z hz1)
theorem build_nil : buildR [] = ([⟨0, 0⟩], 0) := by
  have : sortF [0] = [0] := by simp [sortF, List.mergeSort]
  unfold buildR
  show (if (0 ≤ 64 ∧ _) then _ else _) = _
  rw [if_pos ⟨by omega, rfl⟩]
  show turnO (buildL [] (uniqF (sortF [0]))) 1801 = _
  rw [this]
  rfl
/-- Adding one weight more. -/
theorem pile_step (ts : List Wt) (x : Wt) (rs : List Rn) (hw : ∀ y ∈ ts ++ [x], wOK y = true) (hm : mayR rs = true) (hs : ∀ s, 0 ≤ s → s < 4096 → sumW s ts = (atL s 0 rs, true)) (hfit : ∀ s, 0 ≤ s → s < 4096 → (inW s (ts ++ [x])).sum ≤ 4611686018427387904) :
    (turnR rs x.f0.f0 x.f0.f1 x.f1 1801 (addT x.f1)).2 = 0 ∧ mayR (turnR rs x.f0.f0 x.f0.f1 x.f1 1801 (addT x.f1)).1 = true ∧ ∀ s, 0 ≤ s → s < 4096 → sumW s (ts ++ [x]) = (atL s 0 (turnR rs x.f0.f0 x.f0.f1 x.f1 1801 (addT x.f1)).1, true) := by
  have hx := hw x (List.mem_append_right _ List.mem_cons_self)
  have hwm : wmayF x.f0.f0 x.f0.f1 x.f1 = true := hx
  have hl := wmay_rate hwm
  have hts : ∀ y ∈ ts, wOK y = true := fun y hy => hw y (List.mem_append_left _ hy)
  have hval : ∀ s, 0 ≤ s → s < 4096 → atL s 0 rs = (inW s ts).sum := fun s h0 h4 => by
    have e := hs s h0 h4
    rw [sumW_ok s ts hts] at e
    split at e
    · exact (Prod.mk.inj e).1.symm
    · exact absurd (Prod.mk.inj e).2 Bool.false_ne_true
  have hsum : ∀ s, (inW s (ts ++ [x])).sum = (inW s ts).sum + if hasF x.f0.f0 x.f0.f1 s = true then x.f1 else 0 := fun s => by
    rw [inW_append, List.sum_append, inW, inW]
    split <;> simp
  obtain ⟨c1, c2⟩ := turn_char rs x.f0.f0 x.f0.f1 x.f1 1801 (addT x.f1) (keeps_add hl) hm hwm (by decide)
  have hok := c2 (fun s h0 h4 hh => (add_val (loads_rate hm s) hl).2 (by
    have := hfit s h0 h4
    rw [hsum s, if_pos hh] at this
    rw [hval s h0 h4]
    omega))
  obtain ⟨hq, hat⟩ := c1 hok
  refine ⟨hok, hq, fun s h0 h4 => ?_⟩
  obtain ⟨e1, e2⟩ := hat s h0 h4
  rw [sumW_ok s _ hw, if_pos (hfit s h0 h4), e2, hsum s]
  by_cases hh : hasF x.f0.f0 x.f0.f1 s = true
  · rw [if_pos hh, if_pos hh, add_fst (loads_rate hm s) hl (e1 hh), hval s h0 h4]
  · rw [if_neg hh, if_neg hh, hval s h0 h4, Int.add_zero]
end Go.Proofs.Ytbacdpagpdmkoaa.Man
