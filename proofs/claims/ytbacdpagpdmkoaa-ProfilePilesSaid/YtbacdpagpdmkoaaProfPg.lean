/- Profiles as functions of the instant: two that may be with the same loads are the same; what Build, Add, Take make of the loads. -/
import Derived.Test.YtbacdpagpdmkoaaProfPe
set_option linter.unusedVariables false
set_option linter.unusedSimpArgs false
namespace Go.Proofs.Ytbacdpagpdmkoaa.Man
open Go.RowKit Go.Proofs.Ytbacdpagpdmkoaa.QT Go.Proofs.YtbacdpagpdmkoaaW.PrintWords Go.Proofs.YtbacdpagpdmkoaaW.PrintLast Go.Proofs.YtbacdpagpdmkoaaW.PrintMore

/-! ### A profile is told by its loads -/
theorem okRun_some {q x : Rn} (h : okRun (some q) x = true) : q.f0 < x.f0 ∧ x.f1 ≠ q.f1 := by
  unfold okRun at h
  simp only [Bool.and_eq_true, decide_eq_true_eq] at h
  refine ⟨h.2.2.1, fun e => ?_⟩
  have := h.2.2.2
  rw [e] at this
  simp at this
theorem ok_diff : ∀ (rs : List Rn) (p : Option Rn), okRuns p rs = true → ∀ k (h : k + 1 < rs.length), rs[k + 1].f1 ≠ rs[k].f1
  | [], _, _, k, h => by simp at h
  | x :: rs, p, hok, k, h => by
    rw [okRuns, Bool.and_eq_true] at hok
    cases k with
    | zero =>
      cases rs with
      | nil => simp at h
      | cons y r =>
        have h2 := hok.2
        rw [okRuns, Bool.and_eq_true] at h2
        exact (okRun_some h2.1).2
    | succ k => exact ok_diff rs (some x) hok.2 k (by simpa using h)
theorem atL_prev (z : Int) : ∀ (rs : List Rn) (acc : Int), (∀ x ∈ rs, x.f0 ≠ z) → atL z acc rs = atL (z - 1) acc rs
  | [], _, _ => rfl
  | x :: r, acc, h => by
    have hx := h x List.mem_cons_self
    have : (x.f0 ≤ z) = (x.f0 ≤ z - 1) := propext ⟨fun _ => by omega, fun _ => by omega⟩
    rw [atL, atL]
    simp only [this]
    exact atL_prev z r _ (fun y hy => h y (List.mem_cons_of_mem _ hy))
theorem cnt_at {rs : List Rn} (hr : Rise rs) (t : Int) (k : Nat) (h : k < rs.length) (h1 : rs[k].f0 ≤ t) (h2 : ∀ (h' : k + 1 < rs.length), t < rs[k + 1].f0) : cnt rs t = k + 1 := by
  have hP := parts_cnt rs t hr
  have hlow : k < cnt rs t := Classical.byContradiction fun hn => by have := hP.2.2 k h (by omega); omega
  rcases Nat.lt_or_ge (k + 1) (cnt rs t) with h3 | h3
  · have hl := hP.1
    have := hP.2.1 (k + 1) (by omega) h3
    have := h2 (by omega)
    omega
  · omega
theorem atL_run {rs : List Rn} (hr : Rise rs) (t acc : Int) (k : Nat) (h : k < rs.length) (h1 : rs[k].f0 ≤ t) (h2 : ∀ (h' : k + 1 < rs.length), t < rs[k + 1].f0) : atL t acc rs = rs[k].f1 := by
  rw [atL_cnt t rs acc hr, cnt_at hr t k h h1 h2]
  show (rd_T82 rs (k : Int)).f1 = _
  rw [rdR_at rs k h]
theorem may_low {rs : List Rn} (h : mayR rs = true) : ∀ z ∈ rs.map (·.f0), 0 ≤ z ∧ z < 4096 := by
  obtain ⟨x0, hx0, hz⟩ := may_head h
  intro z hzm
  obtain ⟨x, hx, rfl⟩ := List.mem_map.1 hzm
  refine ⟨?_, (may_rates h x hx).1⟩
  cases rs with
  | nil => cases hx
  | cons y r =>
    simp only [List.head?_cons, Option.some.injEq] at hx0
    subst hx0
    rcases List.mem_cons.1 hx with rfl | hx
    · omega
    · have := (List.pairwise_cons.1 (may_rise h)).1 x hx; omega
theorem zero_mem {rs : List Rn} (h : mayR rs = true) : (0 : Int) ∈ rs.map (·.f0) := by
  obtain ⟨x0, hx0, hz⟩ := may_head h
  cases rs with
  | nil => cases hx0
  | cons y r =>
    simp only [List.head?_cons, Option.some.injEq] at hx0
    subst hx0
    rw [List.map_cons, hz]
    exact List.mem_cons_self
theorem from_iff {rs : List Rn} (h : mayR rs = true) (z : Int) : z ∈ rs.map (·.f0) ↔ (0 ≤ z ∧ z < 4096) ∧ (z = 0 ∨ atL z 0 rs ≠ atL (z - 1) 0 rs) := by
  constructor
  · intro hz
    refine ⟨may_low h z hz, ?_⟩
    by_cases h0 : z = 0
    · exact Or.inl h0
    · right
      obtain ⟨x, hx, rfl⟩ := List.mem_map.1 hz
      obtain ⟨k, hk, rfl⟩ := List.mem_iff_getElem.1 hx
      obtain ⟨x0, hx0, hz0⟩ := may_head h
      have hk0 : k ≠ 0 := by
        rintro rfl
        cases rs with
        | nil => simp at hk
        | cons y r =>
          simp only [List.head?_cons, Option.some.injEq] at hx0
          subst hx0
          exact h0 hz0
      obtain ⟨j, rfl⟩ : ∃ j, k = j + 1 := ⟨k - 1, by omega⟩
      have hr := may_rise h
      rw [atL_run hr _ 0 (j + 1) hk (Int.le_refl _) (fun h' => rise_lt hr (j + 1) (j + 2) h' (by omega)), atL_run hr _ 0 j (by omega) (by have := rise_lt hr j (j + 1) hk (by omega); omega) (fun h' => by omega)]
      exact ok_diff rs none (may_ok h) j hk
  · rintro ⟨h1, h2⟩
    rcases h2 with rfl | h2
    · exact zero_mem h
    · exact Classical.byContradiction fun hn => h2 (atL_prev z rs 0 (fun x hx e => hn (e ▸ List.mem_map_of_mem hx)))
theorem canon {p q : List Rn} (hp : mayR p = true) (hq : mayR q = true) (h : ∀ t, 0 ≤ t → t < 4096 → atL t 0 p = atL t 0 q) : p = q := by
  have hm : p.map (·.f0) = q.map (·.f0) := by
    apply rising_eq
    · exact List.pairwise_map.2 (may_rise hp)
    · exact List.pairwise_map.2 (may_rise hq)
    · intro z
      rw [from_iff hp, from_iff hq]
      constructor
      · rintro ⟨h1, h2⟩
        refine ⟨h1, ?_⟩
        by_cases h0 : z = 0
        · exact Or.inl h0
        · rw [h z h1.1 h1.2, h (z - 1) (by omega) (by omega)] at h2; exact h2
      · rintro ⟨h1, h2⟩
        refine ⟨h1, ?_⟩
        by_cases h0 : z = 0
        · exact Or.inl h0
        · rw [← h z h1.1 h1.2, ← h (z - 1) (by omega) (by omega)] at h2; exact h2
  have ep : ∀ rs : List Rn, mayR rs = true → rs = (rs.map (·.f0)).map (mk rs) := fun rs hr => by
    rw [List.map_map]
    conv => lhs; rw [← List.map_id rs]
    apply List.map_congr_left
    intro x hx
    have h1 := atL_elem rs 0 (may_rise hr) x hx
    show x = mk rs x.f0
    unfold mk
    rw [h1]
  rw [ep p hp, ep q hq, hm]
  apply List.map_congr_left
  intro z hz
  have := may_low hq z hz
  unfold mk
  rw [h z this.1 this.2]

/-! ### Equal loads left out: a profile, with the same loads -/
theorem tdF_sub : ∀ (xs : List Rn) (p : Int), ∀ x ∈ tdF p xs, x ∈ xs
  | [], _, x, h => by cases h
  | y :: r, p, x, h => by
    rw [tdF] at h
    split at h
    · exact List.mem_cons_of_mem _ (tdF_sub r p x h)
    · rcases List.mem_cons.1 h with rfl | h
      · exact List.mem_cons_self
      · exact List.mem_cons_of_mem _ (tdF_sub r y.f1 x h)
theorem tdF_ok : ∀ (xs : List Rn) (p : Rn), (∀ x ∈ xs, p.f0 < x.f0) → Rise xs → (∀ x ∈ xs, x.f0 < 4096 ∧ rateF x.f1 = true) → okRuns (some p) (tdF p.f1 xs) = true
  | [], _, _, _, _ => rfl
  | x :: r, p, h1, h2, h3 => by
    have hr := (List.pairwise_cons.1 h2)
    rw [tdF]
    split
    · exact tdF_ok r p (fun y hy => h1 y (List.mem_cons_of_mem _ hy)) hr.2 (fun y hy => h3 y (List.mem_cons_of_mem _ hy))
    · rename_i hne
      rw [okRuns, Bool.and_eq_true]
      refine ⟨?_, tdF_ok r x hr.1 hr.2 (fun y hy => h3 y (List.mem_cons_of_mem _ hy))⟩
      have hx := h3 x List.mem_cons_self
      have := h1 x List.mem_cons_self
      unfold okRun
      simp [hx.1, hx.2, this, hne]
theorem tidy_may {x : Rn} {r : List Rn} (h0 : x.f0 = 0) (h2 : Rise (x :: r)) (h3 : ∀ y ∈ x :: r, y.f0 < 4096 ∧ rateF y.f1 = true) : mayR (tidyF (x :: r)) = true := by
  have hr := (List.pairwise_cons.1 h2)
  unfold mayR
  show (x.f0 == 0 && okRuns none (x :: tdF x.f1 r)) = true
  rw [okRuns, Bool.and_eq_true, Bool.and_eq_true]
  refine ⟨by simp [h0], ?_, tdF_ok r x hr.1 hr.2 (fun y hy => h3 y (List.mem_cons_of_mem _ hy))⟩
  have hx := h3 x List.mem_cons_self
  unfold okRun
  simp [hx.1, hx.2]
theorem tdF_atL (t : Int) : ∀ (xs : List Rn) (p : Int), Rise xs → atL t p (tdF p xs) = atL t p xs
  | [], _, _ => rfl
  | x :: r, p, h => by
    have hr := (List.pairwise_cons.1 h)
    rw [tdF, atL]
    split
    · rename_i he
      rw [he, ite_self]
      exact tdF_atL t r p hr.2
    · rw [atL]
      split
      · exact tdF_atL t r x.f1 hr.2
      · rename_i hn
        rw [atL_none t r p (fun y hy => by have := hr.1 y hy; omega), atL_none t (tdF x.f1 r) p (fun y hy => by have := hr.1 y (tdF_sub r _ y hy); omega)]
theorem tidy_atL (t acc : Int) (xs : List Rn) (h : Rise xs) : atL t acc (tidyF xs) = atL t acc xs := by
  cases xs with
  | nil => rfl
  | cons x r =>
    have hr := (List.pairwise_cons.1 h)
    show atL t acc (x :: tdF x.f1 r) = atL t acc (x :: r)
    rw [atL, atL]
    split
    · exact tdF_atL t r x.f1 hr.2
    · rename_i hn
      rw [atL_none t r acc (fun y hy => by have := hr.1 y hy; omega), atL_none t (tdF x.f1 r) acc (fun y hy => by have := hr.1 y (tdF_sub r _ y hy); omega)]

/-! ### A row of instants with a load each -/
theorem last_le {ps : List Int} (hp : ps.Pairwise (· < ·)) (h0 : (0 : Int) ∈ ps) (s : Int) (hs : 0 ≤ s) : ∃ (k : Nat) (h : k < ps.length), ps[k] ≤ s ∧ ∀ (h' : k + 1 < ps.length), s < ps[k + 1] := by
  induction ps with
  | nil => cases h0
  | cons p r ih =>
    have hr := List.pairwise_cons.1 hp
    by_cases hc : ∃ q ∈ r, q ≤ s
    · obtain ⟨q, hq, hqs⟩ := hc
      by_cases h0r : (0 : Int) ∈ r
      · obtain ⟨k, hk, h1, h2⟩ := ih hr.2 h0r
        exact ⟨k + 1, by simpa using hk, h1, fun h' => h2 (by simpa using h')⟩
      · -- the head is 0; walk on by the least that is later
        clear ih
        have key : ∀ (xs : List Int), xs.Pairwise (· < ·) → (∃ q ∈ xs, q ≤ s) → ∃ (k : Nat) (h : k < xs.length), xs[k] ≤ s ∧ ∀ (h' : k + 1 < xs.length), s < xs[k + 1] := by
          intro xs
          induction xs with
          | nil => rintro _ ⟨q, hq, _⟩; cases hq
          | cons y ys ihh =>
            intro hy hq
            have hyr := List.pairwise_cons.1 hy
            by_cases hc2 : ∃ q ∈ ys, q ≤ s
            · obtain ⟨k, hk, h1, h2⟩ := ihh hyr.2 hc2
              exact ⟨k + 1, by simpa using hk, h1, fun h' => h2 (by simpa using h')⟩
            · refine ⟨0, by simp, ?_, fun h' => ?_⟩
              · obtain ⟨q, hq, hqs⟩ := hq
                rcases List.mem_cons.1 hq with rfl | hq
                · exact hqs
                · exact absurd ⟨q, hq, hqs⟩ hc2
              · have : ys[0]'(by simpa using h') ∈ ys := List.getElem_mem _
                exact Classical.byContradiction fun hn => hc2 ⟨_, this, by show ys[0]'(by simpa using h') ≤ s; have : ¬ s < ys[0]'(by simpa using h') := hn; omega⟩
        obtain ⟨k, hk, h1, h2⟩ := key r hr.2 ⟨q, hq, hqs⟩
        exact ⟨k + 1, by simpa using hk, h1, fun h' => h2 (by simpa using h')⟩
    · refine ⟨0, by simp, ?_, fun h' => ?_⟩
      · rcases List.mem_cons.1 h0 with rfl | h0
        · exact hs
        · exact absurd ⟨0, h0, hs⟩ hc
      · have : r[0]'(by simpa using h') ∈ r := List.getElem_mem _
        exact Classical.byContradiction fun hn => hc ⟨_, this, by show r[0]'(by simpa using h') ≤ s; have : ¬ s < r[0]'(by simpa using h') := hn; omega⟩
/-- The loads of a row of instants: at s that of the last instant not behind s. -/
theorem atL_map (ps : List Int) (g : Int → Int) (hp : ps.Pairwise (· < ·)) (h0 : (0 : Int) ∈ ps) (s : Int) (hs : 0 ≤ s) : ∃ z ∈ ps, z ≤ s ∧ (∀ y ∈ ps, y ≤ s → y ≤ z) ∧ atL s 0 (ps.map fun t => (⟨t, g t⟩ : Rn)) = g z := by
  obtain ⟨k, hk, h1, h2⟩ := last_le hp h0 s hs
  have hr : Rise (ps.map fun t => (⟨t, g t⟩ : Rn)) := List.pairwise_map.2 hp
  refine ⟨ps[k], List.getElem_mem hk, h1, fun y hy hys => ?_, ?_⟩
  · obtain ⟨j, hj, rfl⟩ := List.mem_iff_getElem.1 hy
    rcases Nat.lt_or_ge k j with hjk | hjk
    · have hk1 : k + 1 < ps.length := by omega
      have := h2 hk1
      have hle : ps[k + 1] ≤ ps[j] := by
        rcases Nat.lt_or_ge (k + 1) j with h3 | h3
        · exact Int.le_of_lt (List.pairwise_iff_getElem.1 hp (k + 1) j hk1 hj h3)
        · obtain rfl : j = k + 1 := by omega
          exact Int.le_refl _
      omega
    · rcases Nat.lt_or_ge j k with h3 | h3
      · exact Int.le_of_lt (List.pairwise_iff_getElem.1 hp j k hj hk h3)
      · obtain rfl : j = k := by omega
        exact Int.le_refl _
  · have := atL_run hr s 0 k (by simpa using hk) (by simpa using h1) (fun h' => by have := h2 (by simpa using h'); simpa using this)
    rw [this]
    simp

/-! ### What Add and Take make of the loads -/
theorem turnL_some (a b : Int) (turn : Int → Int × Bool) : ∀ (xs o : List Rn), turnL a b turn xs = some o → o = xs.map (fun x => (⟨x.f0, if hasF a b x.f0 = true then (turn x.f1).1 else x.f1⟩ : Rn)) ∧ ∀ x ∈ xs, hasF a b x.f0 = true → (turn x.f1).2 = true
  | [], o, h => by rw [turnL] at h; injection h with h; subst h; exact ⟨rfl, fun x hx => by cases hx⟩
  | x :: r, o, h => by
    rw [turnL] at h
    by_cases hh : hasF a b x.f0 = true
    · rw [if_pos hh] at h
      by_cases hk : (turn x.f1).2 = true
      · rw [if_pos hk] at h
        cases ht : turnL a b turn r with
        | none => rw [ht] at h; cases h
        | some o' =>
          rw [ht] at h
          injection h with h
          obtain ⟨i1, i2⟩ := turnL_some a b turn r o' ht
          subst h
          refine ⟨by rw [List.map_cons, if_pos hh, ← i1], fun y hy hyy => ?_⟩
          rcases List.mem_cons.1 hy with rfl | hy
          · exact hk
          · exact i2 y hy hyy
      · rw [if_neg hk] at h; cases h
    · rw [if_neg hh] at h
      cases ht : turnL a b turn r with
      | none => rw [ht] at h; cases h
      | some o' =>
        rw [ht] at h
        injection h with h
        obtain ⟨i1, i2⟩ := turnL_some a b turn r o' ht
        subst h
        refine ⟨by rw [List.map_cons, if_neg hh, ← i1], fun y hy hyy => ?_⟩
        rcases List.mem_cons.1 hy with rfl | hy
        · exact absurd hyy hh
        · exact i2 y hy hyy
theorem turnL_none (a b : Int) (turn : Int → Int × Bool) : ∀ (xs : List Rn), turnL a b turn xs = none → ∃ x ∈ xs, hasF a b x.f0 = true ∧ (turn x.f1).2 ≠ true
  | [], h => by rw [turnL] at h; cases h
  | x :: r, h => by
    rw [turnL] at h
    by_cases hh : hasF a b x.f0 = true
    · rw [if_pos hh] at h
      by_cases hk : (turn x.f1).2 = true
      · rw [if_pos hk] at h
        cases ht : turnL a b turn r with
        | none =>
          obtain ⟨y, hy, h1⟩ := turnL_none a b turn r ht
          exact ⟨y, List.mem_cons_of_mem _ hy, h1⟩
        | some o => rw [ht] at h; cases h
      · exact ⟨x, List.mem_cons_self, hh, hk⟩
    · rw [if_neg hh] at h
      cases ht : turnL a b turn r with
      | none =>
        obtain ⟨y, hy, h1⟩ := turnL_none a b turn r ht
        exact ⟨y, List.mem_cons_of_mem _ hy, h1⟩
      | some o => rw [ht] at h; cases h
/-- A turn that keeps rates. -/
def Keeps (turn : Int → Int × Bool) : Prop := ∀ load, rateF load = true → (turn load).2 = true → rateF (turn load).1 = true
theorem turn_char (rs : List Rn) (a b l code : Int) (turn : Int → Int × Bool) (hk : Keeps turn) (hm : mayR rs = true) (hw : wmayF a b l = true) (hcode : code ≠ 0) :
    ((turnR rs a b l code turn).2 = 0 → mayR (turnR rs a b l code turn).1 = true ∧ ∀ s, 0 ≤ s → s < 4096 → (hasF a b s = true → (turn (atL s 0 rs)).2 = true) ∧ atL s 0 (turnR rs a b l code turn).1 = if hasF a b s = true then (turn (atL s 0 rs)).1 else atL s 0 rs) ∧
    ((∀ s, 0 ≤ s → s < 4096 → hasF a b s = true → (turn (atL s 0 rs)).2 = true) → (turnR rs a b l code turn).2 = 0) := by
  have hwm := hw
  unfold wmayF at hwm
  simp only [Bool.and_eq_true] at hwm
  have hab := mayF_true.1 hwm.1
  have houts := outs_are rs a b hm ⟨hab.1, hab.2.1, hab.2.2⟩
  have hT : turnR rs a b l code turn = turnO (turnL a b turn (((secs 0 4096).filter (startsF a b rs)).map (mk rs))) code := by
    unfold turnR
    rw [if_pos ⟨hm, hw⟩, houts]
  have hrs : ∀ t, rateF (atL t 0 rs) = true := fun t => atL_rate t rs 0 rfl (fun x hx => (may_rates hm x hx).2)
  obtain ⟨ps, hps⟩ : ∃ ps, (secs 0 4096).filter (startsF a b rs) = ps := ⟨_, rfl⟩
  have hpr : ps.Pairwise (· < ·) := by rw [← hps]; exact (secs_rising 4096 0).filter _
  have hpm : ∀ z, z ∈ ps ↔ (0 ≤ z ∧ z < 4096) ∧ (a = z ∨ b = z ∨ z ∈ rs.map (·.f0)) := by
    intro z
    rw [← hps, List.mem_filter, secs_mem, starts_iff]
    constructor
    · rintro ⟨h1, h2⟩; exact ⟨⟨by omega, by omega⟩, h2⟩
    · rintro ⟨h1, h2⟩; exact ⟨⟨by omega, by omega⟩, h2⟩
  have hp0 : (0 : Int) ∈ ps := (hpm 0).2 ⟨⟨by omega, by omega⟩, Or.inr (Or.inr (zero_mem hm))⟩
  rw [hps] at hT
  -- the last start not behind s sees what s sees
  have hsee : ∀ s, 0 ≤ s → s < 4096 → ∀ z ∈ ps, z ≤ s → (∀ y ∈ ps, y ≤ s → y ≤ z) → atL z 0 rs = atL s 0 rs ∧ hasF a b z = hasF a b s := by
    intro s h0 h4 z hz hzs hlast
    have hz0 := ((hpm z).1 hz).1
    constructor
    · have hmono : ∀ (n : Nat), (z + n ≤ s) → atL (z + n) 0 rs = atL z 0 rs := by
        intro n
        induction n with
        | zero => intro _; simp
        | succ n ih =>
          intro hn
          have h1 := ih (by omega)
          rw [← h1, show z + ((n + 1 : Nat) : Int) = (z + n) + 1 by omega]
          have := atL_prev (z + n + 1) rs 0 (fun x hx e => by
            have hin : z + n + 1 ∈ ps := (hpm _).2 ⟨⟨by omega, by omega⟩, Or.inr (Or.inr (e ▸ List.mem_map_of_mem hx))⟩
            have := hlast _ hin (by omega)
            omega)
          rw [this, show z + (n : Int) + 1 - 1 = z + n by omega]
      have := hmono (s - z).toNat (by omega)
      rw [show z + ((s - z).toNat : Int) = s by omega] at this
      exact this.symm
    · rw [Bool.eq_iff_iff, hasF_true, hasF_true]
      constructor
      · rintro ⟨h1, h2, h3⟩
        refine ⟨h1, by omega, Classical.byContradiction fun hn => ?_⟩
        have hin : b ∈ ps := (hpm b).2 ⟨⟨by omega, by omega⟩, Or.inr (Or.inl rfl)⟩
        have := hlast b hin (by omega)
        omega
      · rintro ⟨h1, h2, h3⟩
        have hin : a ∈ ps := (hpm a).2 ⟨⟨by omega, by omega⟩, Or.inl rfl⟩
        have := hlast a hin h2
        exact ⟨h1, this, by omega⟩
  constructor
  · intro hz
    cases ht : turnL a b turn (ps.map (mk rs)) with
    | none => rw [hT, ht] at hz; exact absurd hz hcode
    | some o =>
      obtain ⟨h1, h2⟩ := turnL_some a b turn _ o ht
      have ho : o = ps.map (fun t => (⟨t, if hasF a b t = true then (turn (atL t 0 rs)).1 else atL t 0 rs⟩ : Rn)) := by
        rw [h1, List.map_map]
        rfl
      have hor : Rise o := by rw [ho]; exact List.pairwise_map.2 hpr
      have hobd : ∀ y ∈ o, y.f0 < 4096 ∧ rateF y.f1 = true := by
        intro y hy
        rw [ho] at hy
        obtain ⟨t, htm, rfl⟩ := List.mem_map.1 hy
        refine ⟨((hpm t).1 htm).1.2, ?_⟩
        show rateF (if hasF a b t = true then (turn (atL t 0 rs)).1 else atL t 0 rs) = true
        split
        · rename_i hh
          exact hk _ (hrs t) (h2 (mk rs t) (List.mem_map_of_mem htm) hh)
        · exact hrs t
      have hoh : ∃ x r, o = x :: r ∧ x.f0 = 0 := by
        cases hps2 : ps with
        | nil => rw [hps2] at hp0; cases hp0
        | cons z r =>
          rw [hps2] at ho hp0 hpr
          refine ⟨_, _, by rw [ho, List.map_cons], ?_⟩
          show z = 0
          have hz0 := ((hpm z).1 (by rw [hps2]; exact List.mem_cons_self)).1
          rcases List.mem_cons.1 hp0 with e | e
          · exact e.symm
          · have := (List.pairwise_cons.1 hpr).1 0 e; omega
      rw [hT, ht]
      show mayR (tidyF o) = true ∧ _
      obtain ⟨x, r, hxr, hx0⟩ := hoh
      refine ⟨by rw [hxr] at hor hobd ⊢; exact tidy_may hx0 hor hobd, fun s h0 h4 => ?_⟩
      obtain ⟨z, hz1, hz2, hz3, hz4⟩ := atL_map ps (fun t => if hasF a b t = true then (turn (atL t 0 rs)).1 else atL t 0 rs) hpr hp0 s h0
      obtain ⟨e1, e2⟩ := hsee s h0 h4 z hz1 hz2 hz3
      refine ⟨fun hh => ?_, ?_⟩
      · have := h2 (mk rs z) (List.mem_map_of_mem hz1) (by show hasF a b z = true; rw [e2]; exact hh)
        have h5 : (turn (atL z 0 rs)).2 = true := this
        rwa [e1] at h5
      · show atL s 0 (tidyF o) = _
        rw [tidy_atL s 0 o hor, ho, hz4, e1, e2]
  · intro hall
    cases ht : turnL a b turn (ps.map (mk rs)) with
    | some o => rw [hT, ht]; rfl
    | none =>
      obtain ⟨x, hx, h1, h2⟩ := turnL_none a b turn _ ht
      obtain ⟨t, htm, rfl⟩ := List.mem_map.1 hx
      exact absurd (hall t ((hpm t).1 htm).1.1 ((hpm t).1 htm).1.2 h1) h2
end Go.Proofs.Ytbacdpagpdmkoaa.Man
