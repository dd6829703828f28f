/- Profiles turned: in plain words Add and Take are the reference's Change. -/
import Derived.Test.YtbacdpagpdmkoaaProfPc
set_option linter.unusedVariables false
set_option linter.unusedSimpArgs false
namespace Go.Proofs.Ytbacdpagpdmkoaa.Man
open Go.RowKit Go.Proofs.Ytbacdpagpdmkoaa.QT Go.Proofs.YtbacdpagpdmkoaaW.PrintWords Go.Proofs.YtbacdpagpdmkoaaW.PrintLast Go.Proofs.YtbacdpagpdmkoaaW.PrintMore

theorem atL_append (s : Int) : ∀ (p q : List Rn) (acc : Int), atL s acc (p ++ q) = atL s (atL s acc p) q
  | [], q, acc => rfl
  | x :: p, q, acc => by rw [List.cons_append, atL, atL, atL_append s p q]
theorem atL_last (s : Int) (p : List Rn) (x : Rn) (acc : Int) (h : x.f0 ≤ s) : atL s acc (p ++ [x]) = x.f1 := by
  rw [atL_append, atL, if_pos h, atL]
theorem part_atL (rs : List Rn) (t s acc : Int) (K' : Nat) (hK : Parts rs t (K' + 1)) : atL s acc (partF rs K' t) = atL s acc rs := by
  unfold partF
  split
  · rfl
  · have hl := hK.1
    rw [rdR_at rs K' (by omega)]
    unfold insF
    conv => rhs; rw [← List.take_append_drop (K' + 1) rs]
    rw [atL_append, atL_append, atL]
    split
    · rename_i hts
      have h1 := hK.2.1 K' (by omega) (by omega)
      have : atL s acc (rs.take (K' + 1)) = rs[K'].f1 := by
        rw [List.take_succ_eq_append_getElem (by omega)]
        exact atL_last s _ _ acc (by have : t ≤ s := hts; omega)
      rw [this]
    · rfl
theorem atL_elem : ∀ (rs : List Rn) (acc : Int), Rise rs → ∀ x ∈ rs, atL x.f0 acc rs = x.f1
  | [], _, _, x, hx => by cases hx
  | y :: r, acc, h, x, hx => by
    have h1 := (List.pairwise_cons.1 h).1
    rcases List.mem_cons.1 hx with rfl | hx
    · rw [atL, if_pos (Int.le_refl _)]
      exact atL_none _ r _ h1
    · have := h1 x hx
      rw [atL, if_pos (by omega)]
      exact atL_elem r _ (List.pairwise_cons.1 h).2 x hx
theorem part_froms (rs : List Rn) (t : Int) (K' : Nat) (hK : Parts rs t (K' + 1)) (z : Int) : z ∈ (partF rs K' t).map (·.f0) ↔ z ∈ rs.map (·.f0) ∨ (z = t ∧ t < 4096) := by
  have hl := hK.1
  unfold partF
  rw [rdR_at rs K' (by omega)]
  by_cases h4 : 4096 ≤ t
  · rw [if_pos (Or.inl h4)]
    exact ⟨Or.inl, fun h => h.elim id (fun h => by omega)⟩
  · by_cases he : rs[K'].f0 = t
    · rw [if_pos (Or.inr he)]
      refine ⟨Or.inl, fun h => h.elim id (fun h => ?_)⟩
      rw [h.1, ← he]
      exact List.mem_map_of_mem (List.getElem_mem (by omega))
    · rw [if_neg (by intro h; exact h.elim h4 he)]
      unfold insF
      conv => rhs; rw [← List.take_append_drop (K' + 1) rs]
      simp only [List.map_append, List.map_cons, List.mem_append, List.mem_cons]
      constructor
      · rintro (h | h | h)
        · exact Or.inl (Or.inl h)
        · exact Or.inr ⟨h, by omega⟩
        · exact Or.inl (Or.inr h)
      · rintro ((h | h) | h)
        · exact Or.inl h
        · exact Or.inr (Or.inr h)
        · exact Or.inr (Or.inl h.1)
theorem begins_iff (t : Int) : ∀ rs : List Rn, beginsF t rs = true ↔ t ∈ rs.map (·.f0)
  | [] => by simp [beginsF]
  | x :: r => by
    have ih := begins_iff t r
    rw [beginsF, List.map_cons, List.mem_cons]
    by_cases h : x.f0 = t
    · rw [if_pos h]; exact ⟨fun _ => Or.inl h.symm, fun _ => rfl⟩
    · rw [if_neg h, ih]
      exact ⟨Or.inr, fun hh => hh.elim (fun e => absurd e.symm h) id⟩
theorem starts_iff (a b : Int) (rs : List Rn) (t : Int) : startsF a b rs t = true ↔ a = t ∨ b = t ∨ t ∈ rs.map (·.f0) := by
  unfold startsF
  by_cases h : a = t ∨ b = t
  · rw [if_pos h]
    exact ⟨fun _ => h.elim Or.inl (fun h => Or.inr (Or.inl h)), fun _ => rfl⟩
  · rw [if_neg h, begins_iff]
    exact ⟨fun hh => Or.inr (Or.inr hh), fun hh => hh.elim (fun e => absurd (Or.inl e) h) (fun hh => hh.elim (fun e => absurd (Or.inr e) h) id)⟩
/-- The runs that Add and Take turn. -/
theorem parts_of {rs : List Rn} {t : Int} {x : Rn} (hr : Rise rs) (hh : rs.head? = some x) (hx : x.f0 ≤ t) : Parts rs t (cnt rs t - 1 + 1) := by
  have := cnt_head hh hx
  rw [show cnt rs t - 1 + 1 = cnt rs t by omega]
  exact parts_cnt rs t hr
def mk (rs : List Rn) (t : Int) : Rn := ⟨t, atL t 0 rs⟩
theorem outs_are (rs : List Rn) (a b : Int) (hm : mayR rs = true) (hab : 0 ≤ a ∧ a < b ∧ b ≤ 4096) :
    partT (partT rs a) b = ((secs 0 4096).filter (startsF a b rs)).map (mk rs) := by
  obtain ⟨x0, hx0, hz⟩ := may_head hm
  have hn0 : 0 < rs.length := by cases rs with | nil => simp at hx0 | cons y r => simp
  have hP1 := parts_of (t := a) (may_rise hm) hx0 (by omega)
  have hr1 : Rise (partT rs a) := part_rise rs a _ (may_rise hm) hP1
  have hh1 : (partT rs a).head? = some x0 := by unfold partT; rw [part_head _ _ _ hn0]; exact hx0
  have hP2 := parts_of (t := b) hr1 hh1 (by omega)
  have hr2 : Rise (partT (partT rs a) b) := part_rise _ b _ hr1 hP2
  have hat : ∀ s acc, atL s acc (partT (partT rs a) b) = atL s acc rs := fun s acc => (part_atL _ b s acc _ hP2).trans (part_atL rs a s acc _ hP1)
  have hfr : ∀ z, z ∈ (partT (partT rs a) b).map (·.f0) ↔ z ∈ rs.map (·.f0) ∨ z = a ∨ (z = b ∧ b < 4096) := by
    intro z
    have h1 := part_froms (partT rs a) b _ hP2 z
    have h2 := part_froms rs a _ hP1 z
    have h1' : z ∈ (partT (partT rs a) b).map (·.f0) ↔ z ∈ (partT rs a).map (·.f0) ∨ (z = b ∧ b < 4096) := h1
    have h2' : z ∈ (partT rs a).map (·.f0) ↔ z ∈ rs.map (·.f0) ∨ (z = a ∧ a < 4096) := h2
    rw [h1', h2']
    constructor
    · rintro ((h | h) | h)
      · exact Or.inl h
      · exact Or.inr (Or.inl h.1)
      · exact Or.inr (Or.inr h)
    · rintro (h | h | h)
      · exact Or.inl (Or.inl h)
      · exact Or.inl (Or.inr ⟨h, by omega⟩)
      · exact Or.inr h
  have hlow : ∀ z ∈ rs.map (·.f0), 0 ≤ z ∧ z < 4096 := by
    intro z hzm
    obtain ⟨x, hx, rfl⟩ := List.mem_map.1 hzm
    refine ⟨?_, (may_rates hm x hx).1⟩
    cases rs with
    | nil => cases hx
    | cons y r =>
      simp only [List.head?_cons, Option.some.injEq] at hx0
      subst hx0
      rcases List.mem_cons.1 hx with rfl | hx
      · omega
      · have := (List.pairwise_cons.1 (may_rise hm)).1 x hx; omega
  have hmap : (partT (partT rs a) b).map (·.f0) = (secs 0 4096).filter (startsF a b rs) := by
    apply rising_eq
    · exact List.pairwise_map.2 hr2
    · exact (secs_rising 4096 0).filter _
    · intro z
      rw [hfr, List.mem_filter, secs_mem, starts_iff]
      constructor
      · rintro (h | h | h)
        · have := hlow z h
          exact ⟨⟨by omega, by omega⟩, Or.inr (Or.inr h)⟩
        · exact ⟨⟨by omega, by omega⟩, Or.inl h.symm⟩
        · exact ⟨⟨by omega, by omega⟩, Or.inr (Or.inl h.1.symm)⟩
      · rintro ⟨h1, h | h | h⟩
        · exact Or.inr (Or.inl h.symm)
        · exact Or.inr (Or.inr ⟨h.symm, by omega⟩)
        · exact Or.inl h
  rw [← hmap, List.map_map]
  conv => lhs; rw [← List.map_id (partT (partT rs a) b)]
  apply List.map_congr_left
  intro x hx
  have h1 := atL_elem _ 0 hr2 x hx
  rw [hat] at h1
  show x = mk rs x.f0
  unfold mk
  rw [h1]
theorem ch_filter (rs : List Rn) (a b l : Int) (more : Bool) : ∀ (ts : List Int) (out : List Rn), chL rs a b l more out ts = chL rs a b l more out (ts.filter (startsF a b rs))
  | [], out => rfl
  | t :: r, out => by
    by_cases h : startsF a b rs t = true
    · rw [List.filter_cons_of_pos h, chL, chL]
      simp only [ch_filter rs a b l more r]
    · have h' : startsF a b rs t = false := by simpa using h
      rw [List.filter_cons_of_neg h, chL, if_pos h']
      exact ch_filter rs a b l more r out
theorem addT_is (l load : Int) (h1 : rateF load = true) (h2 : rateF l = true) : addT l load = if 4611686018427387904 - l < load then (0, false) else (load + l, true) := by
  have g1 := rate_bounds h1
  have g2 := rate_bounds h2
  unfold addT
  by_cases h : 4611686018427387904 - l < load
  · rw [if_pos h, sumR, if_pos ⟨h1, by omega⟩, sumR, if_neg (fun c => by have := c.2; omega)]
  · rw [if_neg h, sumR_app load l h1 h2 (by omega)]
def turnOf (more : Bool) (l : Int) : Int → Int × Bool := if more = true then addT l else takeT l
def codeOf (more : Bool) : Int := if more = true then 1801 else 1802
theorem ch_turn (rs : List Rn) (a b l : Int) (more : Bool) (hrs : ∀ t, rateF (atL t 0 rs) = true) (hl : rateF l = true) : ∀ (ts : List Int) (pre : List Rn), (∀ t ∈ ts, startsF a b rs t = true) →
    chL rs a b l more (tidyF pre) ts = match turnL a b (turnOf more l) (ts.map (mk rs)) with | some o => (tidyF (pre ++ o), 0) | none => ([], codeOf more)
  | [], pre, _ => by simp [chL, turnL]
  | t :: r, pre, h => by
    have ht := h t List.mem_cons_self
    have ih := fun v => ch_turn rs a b l more hrs hl r (pre ++ [⟨t, v⟩]) (fun z hz => h z (List.mem_cons_of_mem _ hz))
    have ih' : ∀ v, chL rs a b l more (putF (tidyF pre) t v) r = match turnL a b (turnOf more l) (r.map (mk rs)) with | some o => (tidyF (pre ++ (⟨t, v⟩ :: o)), 0) | none => ([], codeOf more) := fun v => by
      have := ih v
      rw [tidyF_snoc] at this
      rw [this]
      cases turnL a b (turnOf more l) (r.map (mk rs)) with
      | none => rfl
      | some o => simp
    rw [chL, if_neg (by rw [ht]; decide), List.map_cons, turnL]
    show _ = match (if hasF a b t = true then (if (turnOf more l (atL t 0 rs)).2 = true then (turnL a b (turnOf more l) (r.map (mk rs))).map ((⟨t, (turnOf more l (atL t 0 rs)).1⟩ : Rn) :: ·) else none) else (turnL a b (turnOf more l) (r.map (mk rs))).map (mk rs t :: ·)) with | some o => (tidyF (pre ++ o), 0) | none => ([], codeOf more)
    by_cases hh : hasF a b t = true
    · rw [if_pos hh, if_pos hh]
      cases more with
      | true =>
        rw [if_pos rfl]
        show (if 4611686018427387904 - l < atL t 0 rs then ([], 1801) else chL rs a b l true (putF (tidyF pre) t (atL t 0 rs + l)) r) = match (if (addT l (atL t 0 rs)).2 = true then (turnL a b (turnOf true l) (r.map (mk rs))).map ((⟨t, (addT l (atL t 0 rs)).1⟩ : Rn) :: ·) else none) with | some o => (tidyF (pre ++ o), 0) | none => ([], codeOf true)
        rw [addT_is l _ (hrs t) hl]
        by_cases hg : 4611686018427387904 - l < atL t 0 rs
        · rw [if_pos hg, if_pos hg, if_neg Bool.false_ne_true]
          rfl
        · rw [if_neg hg, if_neg hg, if_pos rfl, ih']
          cases turnL a b (turnOf true l) (r.map (mk rs)) <;> rfl
      | false =>
        rw [if_neg Bool.false_ne_true]
        show (if atL t 0 rs < l then ([], 1802) else chL rs a b l false (putF (tidyF pre) t (atL t 0 rs - l)) r) = match (if (takeT l (atL t 0 rs)).2 = true then (turnL a b (turnOf false l) (r.map (mk rs))).map ((⟨t, (takeT l (atL t 0 rs)).1⟩ : Rn) :: ·) else none) with | some o => (tidyF (pre ++ o), 0) | none => ([], codeOf false)
        unfold takeT
        by_cases hg : atL t 0 rs < l
        · rw [if_pos hg, if_neg (by simp; omega)]
          rfl
        · rw [if_neg hg, if_pos (by simp; omega), ih']
          cases turnL a b (turnOf false l) (r.map (mk rs)) <;> rfl
    · rw [if_neg hh, if_neg hh, ih']
      cases turnL a b (turnOf more l) (r.map (mk rs)) <;> rfl
theorem turn_rchange (rs : List Rn) (a b l : Int) (more : Bool) : turnR rs a b l (codeOf more) (turnOf more l) = rchangeR rs a b l more 4096 := by
  unfold turnR rchangeR
  by_cases h : mayR rs = true ∧ wmayF a b l = true
  case neg => rw [if_neg h, if_neg h]
  rw [if_pos h, if_pos h]
  have hw := h.2
  unfold wmayF at hw
  simp only [Bool.and_eq_true] at hw
  have hab := mayF_true.1 hw.1
  have hrs : ∀ t, rateF (atL t 0 rs) = true := fun t => atL_rate t rs 0 rfl (fun x hx => (may_rates h.1 x hx).2)
  rw [ch_filter, outs_are rs a b h.1 ⟨hab.1, hab.2.1, hab.2.2⟩]
  have := ch_turn rs a b l more hrs hw.2 ((secs 0 4096).filter (startsF a b rs)) [] (fun t ht => (List.mem_filter.1 ht).2)
  rw [show chL rs a b l more [] = chL rs a b l more (tidyF []) from rfl, this]
  cases turnL a b (turnOf more l) (((secs 0 4096).filter (startsF a b rs)).map (mk rs)) <;> rfl
theorem add_rchange (rs : List Rn) (a b l : Int) : turnR rs a b l 1801 (addT l) = rchangeR rs a b l true 4096 := turn_rchange rs a b l true
theorem take_rchange (rs : List Rn) (a b l : Int) : turnR rs a b l 1802 (takeT l) = rchangeR rs a b l false 4096 := turn_rchange rs a b l false
theorem ch_len (rs : List Rn) (a b l : Int) (more : Bool) : ∀ (ts : List Int) (out : List Rn), (chL rs a b l more out ts).1.length ≤ out.length + ts.length
  | [], out => Nat.le_refl _
  | t :: r, out => by
    have h1 := ch_len rs a b l more r out
    have h2 := fun v => ch_len rs a b l more r (putF out t v)
    have h3 := putF_le out t
    rw [chL]
    simp only [List.length_cons]
    split
    · omega
    · split
      · split
        · split
          · simp
          · have := h2 (atL t 0 rs + l); have := h3 (atL t 0 rs + l); omega
        · split
          · simp
          · have := h2 (atL t 0 rs - l); have := h3 (atL t 0 rs - l); omega
      · have := h2 (atL t 0 rs); have := h3 (atL t 0 rs); omega
theorem secs_length : ∀ n k, (secs k n).length = n
  | 0, _ => rfl
  | n + 1, k => by rw [secs, List.length_cons, secs_length n]
theorem rchange_len (rs : List Rn) (a b l : Int) (more : Bool) (n : Nat) : (rchangeR rs a b l more n).1.length ≤ n := by
  unfold rchangeR
  split
  · have := ch_len rs a b l more (secs 0 n) []
    rw [secs_length] at this
    simpa using this
  · simp
theorem rb_len (ws : List Wt) : ∀ (ts : List Int) (out o : List Rn), rbL ws out ts = some o → o.length ≤ out.length + ts.length
  | [], out, o, h => by rw [rbL] at h; injection h with h; subst h; exact Nat.le_refl _
  | t :: r, out, o, h => by
    rw [rbL] at h
    simp only [List.length_cons]
    split at h
    · have := rb_len ws r out o h; omega
    · split at h
      · have := rb_len ws r _ o h
        have := putF_le out t (sumW t ws).1
        omega
      · cases h
theorem rbuild_len (ws : List Wt) (n : Nat) : (rbuildR ws n).1.length ≤ n := by
  unfold rbuildR
  split
  · cases h : rbL ws [] (secs 0 n) with
    | none => simp [rbO]
    | some o =>
      have := rb_len ws _ _ _ h
      rw [secs_length] at this
      simpa [rbO] using this
  · simp
end Go.Proofs.Ytbacdpagpdmkoaa.Man
