/- Plain laws of chapter 2: the program's functions and the document's answer alike. -/
import Derived.Test.YtbacdpagpdmkoaaQA3
import Derived.Test.YtbacdpagpdmkoaaQA4
import Derived.Test.YtbacdpagpdmkoaaQB3
import Derived.Test.YtbacdpagpdmkoaaSpanM
import Derived.Test.YtbacdpagpdmkoaaSpanD
set_option linter.unusedVariables false
set_option linter.unusedSimpArgs false
namespace Go.Proofs.Ytbacdpagpdmkoaa.Plain2
open Go.RowKit Go.Proofs.Ytbacdpagpdmkoaa.QT Go.Proofs.Ytbacdpagpdmkoaa.Man Go.Proofs.YtbacdpagpdmkoaaW.PrintWords Go.Proofs.YtbacdpagpdmkoaaW.PrintLast Go.Proofs.YtbacdpagpdmkoaaW.PrintMore

theorem wrap_small (x : Int) (h0 : 0 ≤ x) (h1 : x ≤ 562949953421312) : wrap64 x = x := by
  unfold wrap64
  omega
theorem wrap_next (i : Nat) (h1 : i + 1 ≤ 562949953421312) : wrap64 ((i : Int) + 1) = ((i + 1 : Nat) : Int) := by
  rw [wrap_small _ (by omega) (by omega)]
  omega

theorem mayA (a b : Int) : QA.tollbarref1_SpanMay.f a b = some (mayF a b) := by
  unfold QA.tollbarref1_SpanMay.f mayF
  by_cases h0 : a ≥ 0
  · rw [if_pos h0]
    by_cases h1 : a < b
    · rw [if_pos h1]; simp [h0, h1]
    · rw [if_neg h1]; simp [h1]
  · rw [if_neg h0]
    have : ¬ 0 ≤ a := h0
    simp [this]
theorem hasB (a b t : Int) : QB.tollbarref1_Has.f a b t = some (hasF a b t) := by
  unfold QB.tollbarref1_Has.f hasF
  rw [tollbarref1_SpanMay.f]
  simp only [Option.bind_some]
  cases h : mayF a b
  · rw [if_neg (by decide)]; rfl
  · rw [if_pos rfl]
    by_cases h1 : a ≤ t
    · rw [if_pos h1]; simp [h1]
    · rw [if_neg h1]; simp [h1]
theorem spans (a b c d t : Int) : QB.tollbarlaw2_Spans.f a b c d t = some true := by
  unfold QB.tollbarlaw2_Spans.f
  simp only [span_Both.f, span_Meets.f, span_May.f, span_Has.f, tollbarlaw2_awake.f, tollbarref1_Both.f, tollbarref1_SpanMay.f, hasB, Option.bind_some, if_true, beq_self_eq_true, Bool.and_self]

/-! ### Cover -/
theorem okAll_cons (s : S23) (r : List S23) : okAll (s :: r) = (mayF s.f0 s.f1 && okAll r) := rfl
theorem hullF_cons (p q : Int) (s : S23) (r : List S23) : hullF p q (s :: r) = hullF (mn p s.f0) (mx q s.f1) r := rfl
theorem cover_loop (l : List S23) (hb : l.length ≤ 281474976710656) : ∀ (d i k : Nat) (p q : Int), l.length - i = d → i ≤ l.length → d < k →
    QA.tollbarref1_Cover.l0 k l (i : Int) p q = some (if okAll (l.drop i) = true then ((hullF p q (l.drop i)).1, (hullF p q (l.drop i)).2, 0) else (0, 0, 200)) := by
  intro d
  induction d with
  | zero =>
    intro i k p q hd hi hk
    obtain ⟨k, rfl⟩ : ∃ m, k = m + 1 := ⟨k - 1, by omega⟩
    simp only [QA.tollbarref1_Cover.l0]
    rw [if_neg (by omega), List.drop_of_length_le (by omega), if_pos (by rfl)]
    rfl
  | succ d ih =>
    intro i k p q hd hi hk
    obtain ⟨k, rfl⟩ : ∃ m, k = m + 1 := ⟨k - 1, by omega⟩
    have h1 : i < l.length := by omega
    simp only [QA.tollbarref1_Cover.l0]
    rw [if_pos (by omega), if_pos (by omega), rdT_at l i h1, mayA, wrap_next i (by omega), List.drop_eq_getElem_cons h1, okAll_cons, hullF_cons]
    simp only [Option.bind_some]
    cases hm : mayF l[i].f0 l[i].f1
    · rw [if_neg (by decide), if_neg (by simp)]
    · rw [if_pos rfl]
      simp only [Bool.true_and]
      have g := fun p q => ih (i + 1) k p q (by omega) (by omega) (by omega)
      unfold mn mx
      by_cases h2 : l[i].f0 < p
      · rw [if_pos h2, if_pos h2]
        by_cases h3 : l[i].f1 > q
        · rw [if_pos h3, if_pos (show q < l[i].f1 from h3), g]
        · rw [if_neg h3, if_neg (show ¬ q < l[i].f1 from h3), g]
      · rw [if_neg h2, if_neg h2]
        by_cases h3 : l[i].f1 > q
        · rw [if_pos h3, if_pos (show q < l[i].f1 from h3), g]
        · rw [if_neg h3, if_neg (show ¬ q < l[i].f1 from h3), g]
theorem mn_self (x : Int) : mn x x = x := by unfold mn; split <;> rfl
theorem mx_self (x : Int) : mx x x = x := by unfold mx; split <;> rfl
theorem coverA (l : List S23) (hb : l.length ≤ 281474976710656) : QA.tollbarref1_Cover.f (l.length + 1) l = some (coverF l) := by
  unfold QA.tollbarref1_Cover.f
  cases l with
  | nil => rfl
  | cons s r =>
    rw [if_neg (by simp; omega), if_pos (by simp)]
    have e : rd_T23 (s :: r) 0 = s := rfl
    have := cover_loop (s :: r) hb (s :: r).length 0 ((s :: r).length + 1) s.f0 s.f1 rfl (Nat.zero_le _) (by omega)
    rw [e]
    refine this.trans ?_
    rw [List.drop_zero, hullF_cons, mn_self, mx_self]
    rfl
theorem covers (l : List S23) (hb : l.length < 8796093022208) : QA.tollbarlaw2_SpanCovers.f (l.length + 1) l = some true := by
  unfold QA.tollbarlaw2_SpanCovers.f QA.tollbarlaw0_CopySpans.f
  simp only [Option.bind_some, List.length_nil, Nat.zero_add, List.nil_append]
  rw [if_pos hb]
  simp only [Option.bind_some, span_Cover.f]
  rw [if_pos (by omega), coverA l (by omega)]
  simp only [Option.bind_some, tollbarlaw2_awake.f, if_true, tollbarlaw0_Num.f, beq_self_eq_true, Bool.and_self, tollbarlaw0_SameSpans.f]
  rw [if_pos (by omega)]
  simp

/-! ### Covers of covers -/
theorem mn_assoc (a b c : Int) : mn (mn a b) c = mn a (mn b c) := by unfold mn; split <;> split <;> (try split) <;> omega
theorem mx_assoc (a b c : Int) : mx (mx a b) c = mx a (mx b c) := by unfold mx; split <;> split <;> (try split) <;> omega
theorem hull_out : ∀ (r : List S23) (p q : Int) (s : S23), hullF p q (s :: r) = (mn p (hullF s.f0 s.f1 r).1, mx q (hullF s.f0 s.f1 r).2)
  | [], p, q, s => rfl
  | t :: r, p, q, s => by
    rw [hullF_cons, hull_out r _ _ t, hull_out r s.f0 s.f1 t]
    simp only [mn_assoc, mx_assoc]
theorem hull_append (l r : List S23) (p q : Int) : hullF p q (l ++ r) = hullF (hullF p q l).1 (hullF p q l).2 r := by
  unfold hullF
  rw [List.foldl_append]
theorem okAll_append (l r : List S23) : okAll (l ++ r) = (okAll l && okAll r) := List.all_append
theorem mn_le (a b : Int) : mn a b ≤ a ∧ mn a b ≤ b := by unfold mn; split <;> omega
theorem le_mx (a b : Int) : a ≤ mx a b ∧ b ≤ mx a b := by unfold mx; split <;> omega
theorem hull_has : ∀ (r : List S23) (p q : Int), (hullF p q r).1 ≤ p ∧ q ≤ (hullF p q r).2 ∧ ∀ s ∈ r, (hullF p q r).1 ≤ s.f0 ∧ s.f1 ≤ (hullF p q r).2
  | [], p, q => ⟨Int.le_refl _, Int.le_refl _, by simp⟩
  | t :: r, p, q => by
    rw [hullF_cons]
    obtain ⟨h1, h2, h3⟩ := hull_has r (mn p t.f0) (mx q t.f1)
    have := mn_le p t.f0
    have := le_mx q t.f1
    refine ⟨by omega, by omega, fun s hs => ?_⟩
    rcases List.mem_cons.1 hs with rfl | hs
    · omega
    · exact h3 s hs
theorem hull_may : ∀ (r : List S23) (p q : Int), mayF p q = true → okAll r = true → mayF (hullF p q r).1 (hullF p q r).2 = true
  | [], p, q, h, _ => h
  | t :: r, p, q, h, hr => by
    rw [okAll_cons, Bool.and_eq_true] at hr
    rw [hullF_cons]
    refine hull_may r _ _ ?_ hr.2
    have h1 := mayF_true.1 h
    have h2 := mayF_true.1 hr.1
    rw [mayF_true]
    unfold mn mx
    split <;> split <;> omega
theorem coverF_ok (l : List S23) (h : (coverF l).2.2 = 0) : ∃ s r, l = s :: r ∧ okAll l = true ∧ coverF l = ((hullF s.f0 s.f1 r).1, (hullF s.f0 s.f1 r).2, 0) := by
  cases l with
  | nil => exact absurd h (by decide)
  | cons s r =>
    have e : coverF (s :: r) = if okAll (s :: r) = true then ((hullF s.f0 s.f1 r).1, (hullF s.f0 s.f1 r).2, 0) else (0, 0, 200) := rfl
    by_cases hk : okAll (s :: r) = true
    · exact ⟨s, r, rfl, hk, by rw [e, if_pos hk]⟩
    · rw [e, if_neg hk] at h
      exact absurd h (by decide)
theorem coverF_of (s : S23) (r : List S23) (hk : okAll (s :: r) = true) : coverF (s :: r) = ((hullF s.f0 s.f1 r).1, (hullF s.f0 s.f1 r).2, 0) := if_pos hk
theorem both_in (a b c d : Int) (h1 : mayF a b = true) (h2 : mayF c d = true) (h3 : c ≤ a) (h4 : b ≤ d) : bothF a b c d = (a, b, true) := by
  have e1 : mx a c = a := by unfold mx; rw [if_neg (by omega)]
  have e2 : mn b d = b := by unfold mn; rw [if_neg (by omega)]
  unfold bothF
  rw [if_pos h1, if_pos h2, e1, e2, if_pos h1]
theorem hulls_loop (l : List S23) (hb : l.length ≤ 281474976710656) (x y : Int) (hm : mayF x y = true) (hin : ∀ s ∈ l, mayF s.f0 s.f1 = true ∧ x ≤ s.f0 ∧ s.f1 ≤ y) : ∀ (d i k : Nat), l.length - i = d → i ≤ l.length → d < k →
    QA.tollbarlaw2_SpanHulls.l0 k l 0 0 (i : Int) x y x y = some true := by
  intro d
  induction d with
  | zero =>
    intro i k hd hi hk
    obtain ⟨k, rfl⟩ : ∃ m, k = m + 1 := ⟨k - 1, by omega⟩
    simp only [QA.tollbarlaw2_SpanHulls.l0]
    rw [if_neg (by omega)]
    simp [tollbarlaw2_awake.f, tollbarlaw0_Num.f]
  | succ d ih =>
    intro i k hd hi hk
    obtain ⟨k, rfl⟩ : ∃ m, k = m + 1 := ⟨k - 1, by omega⟩
    have h1 : i < l.length := by omega
    simp only [QA.tollbarlaw2_SpanHulls.l0]
    obtain ⟨g1, g2, g3⟩ := hin l[i] (List.getElem_mem h1)
    rw [if_pos (by omega), if_pos (by omega), rdT_at l i h1, wrap_next i (by omega)]
    simp only [span_Both.f, Option.bind_some]
    rw [both_in _ _ _ _ g1 hm g2 g3, ih (i + 1) k (by omega) (by omega) (by omega)]
    simp
theorem hulls (a b : List S23) (ha : a.length ≤ 1048576) (hb : b.length ≤ 1048576) : QA.tollbarlaw2_SpanHulls.f (a.length + b.length + 2) a b = some true := by
  unfold QA.tollbarlaw2_SpanHulls.f
  simp only [span_Cover.f]
  rw [if_pos (by omega), if_pos (by omega)]
  simp only [Option.bind_some, tollbarlaw0_Num.f]
  have hj : ∀ x0 x1 y0 y1, QA.tollbarlaw2_SpanHulls.j0 (a.length + b.length + 2) a b true x0 x1 y0 y1 = some true := fun _ _ _ _ => by
    simp only [QA.tollbarlaw2_SpanHulls.j0]
    rw [if_pos trivial]
  by_cases h1 : (coverF a).2.2 = 0
  case neg => rw [if_neg h1]; exact hj _ _ _ _
  rw [if_pos h1]
  by_cases h2 : (coverF b).2.2 = 0
  case neg =>
    have : ((coverF b).2.2 != 0) = true := by simpa using h2
    rw [this]
    exact hj _ _ _ _
  rw [h2]
  obtain ⟨s, r, rfl, hka, hca⟩ := coverF_ok a h1
  obtain ⟨t, q, rfl, hkb, hcb⟩ := coverF_ok b h2
  rw [hca, hcb]
  simp only [QA.tollbarlaw2_SpanHulls.j0, QA.tollbarlaw0_CopySpans.f, Option.bind_some, List.length_nil, Nat.zero_add, List.nil_append]
  rw [if_neg (by decide), if_pos (by omega)]
  simp only [Option.bind_some]
  rw [if_pos (by omega)]
  simp only [Option.bind_some, span_Cover.f]
  rw [if_pos (by simp at ha hb ⊢; omega), if_pos (by simp)]
  simp only [Option.bind_some]
  have hka' := hka
  have hkb' := hkb
  rw [okAll_cons, Bool.and_eq_true] at hka' hkb'
  have hmx := hull_may r s.f0 s.f1 hka'.1 hka'.2
  have hmy := hull_may q t.f0 t.f1 hkb'.1 hkb'.2
  have hall : okAll (s :: (r ++ t :: q)) = true := by
    have := okAll_append (s :: r) (t :: q)
    rw [hka, hkb] at this
    exact this
  have e1 : coverF (s :: r ++ t :: q) = ((hullF s.f0 s.f1 (r ++ t :: q)).1, (hullF s.f0 s.f1 (r ++ t :: q)).2, 0) := coverF_of s (r ++ t :: q) hall
  have e2 := coverF_of ⟨(hullF s.f0 s.f1 r).1, (hullF s.f0 s.f1 r).2⟩ [⟨(hullF t.f0 t.f1 q).1, (hullF t.f0 t.f1 q).2⟩] (by rw [okAll_cons, okAll_cons, hmx, hmy]; rfl)
  rw [e1, e2, hull_append, hull_out]
  have e3 : hullF (hullF s.f0 s.f1 r).1 (hullF s.f0 s.f1 r).2 [⟨(hullF t.f0 t.f1 q).1, (hullF t.f0 t.f1 q).2⟩] = (mn (hullF s.f0 s.f1 r).1 (hullF t.f0 t.f1 q).1, mx (hullF s.f0 s.f1 r).2 (hullF t.f0 t.f1 q).2) := rfl
  rw [e3]
  obtain ⟨b1, b2, b3⟩ := hull_has r s.f0 s.f1
  obtain ⟨d1, d2, d3⟩ := hull_has q t.f0 t.f1
  have m1 := mn_le (hullF s.f0 s.f1 r).1 (hullF t.f0 t.f1 q).1
  have m2 := le_mx (hullF s.f0 s.f1 r).2 (hullF t.f0 t.f1 q).2
  refine hulls_loop (s :: r ++ t :: q) (by simp at ha hb ⊢; omega) (mn (hullF s.f0 s.f1 r).1 (hullF t.f0 t.f1 q).1) (mx (hullF s.f0 s.f1 r).2 (hullF t.f0 t.f1 q).2) ?_ ?_ (s :: r ++ t :: q).length 0 _ rfl (Nat.zero_le _) (by simp)
  · have g1 := mayF_true.1 hmx
    have g2 := mayF_true.1 hmy
    rw [mayF_true]
    unfold mn mx
    split <;> split <;> omega
  · intro u hu
    have hmu : mayF u.f0 u.f1 = true := by
      have : okAll (s :: r ++ t :: q) = true := hall
      exact List.all_eq_true.1 this u hu
    refine ⟨hmu, ?_⟩
    rcases List.mem_append.1 hu with h | h
    · rcases List.mem_cons.1 h with rfl | h
      · omega
      · have := b3 u h
        omega
    · rcases List.mem_cons.1 h with rfl | h
      · omega
      · have := d3 u h
        omega
theorem bulk3 (xs : List S23) : (xs.map fun _ : S23 => 3).sum = 3 * xs.length := by
  induction xs with
  | nil => rfl
  | cons x r ih => simp [ih]; omega
end Go.Proofs.Ytbacdpagpdmkoaa.Plain2
namespace Go.Proofs.Ytbacdpagpdmkoaa.Pure
open Go.Proofs.Ytbacdpagpdmkoaa.QT Go.Proofs.Ytbacdpagpdmkoaa.Plain2
theorem Spans (x0 : S23) {p : Prop} (h0 : p) (x1 : S23) {q : Prop} (h1 : q) (x2 : Int) {r : Prop} (h2 : r) : QB.tollbarlaw2_Spans.f x0.f0 x0.f1 x1.f0 x1.f1 x2 = some true := spans _ _ _ _ _
theorem SpanCovers (x0 : List S23) {P : S23 → Prop} (h0 : (∀ x ∈ x0, P x) ∧ x0.length * 16 ≤ 140737488351232) : ∃ k, QA.tollbarlaw2_SpanCovers.f k x0 = some true := ⟨_, covers x0 (by omega)⟩
theorem SpanHulls (x0 : List S23) {P : S23 → Prop} (h0 : (∀ x ∈ x0, P x) ∧ x0.length * 16 ≤ 140737488351232) (x1 : List S23) {Q : S23 → Prop} (h1 : (∀ x ∈ x1, Q x) ∧ x1.length * 16 ≤ 140737488351232) (hb : (x0.map fun _ : S23 => 3).sum + 1 + ((x1.map fun _ : S23 => 3).sum + 1) ≤ 1048576) : ∃ k, QA.tollbarlaw2_SpanHulls.f k x0 x1 = some true := by
  rw [bulk3, bulk3] at hb
  exact ⟨_, hulls x0 x1 (by omega) (by omega)⟩
end Go.Proofs.Ytbacdpagpdmkoaa.Pure
