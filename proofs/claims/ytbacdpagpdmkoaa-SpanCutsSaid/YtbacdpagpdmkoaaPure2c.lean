/- Plain laws of chapter 2, on cuts: the document cuts as the program does. -/
import Derived.Test.YtbacdpagpdmkoaaQA4
import Derived.Test.YtbacdpagpdmkoaaPure2
set_option linter.unusedVariables false
set_option linter.unusedSimpArgs false
namespace Go.Proofs.Ytbacdpagpdmkoaa.Plain2
open Go.RowKit Go.Proofs.Ytbacdpagpdmkoaa.QT Go.Proofs.Ytbacdpagpdmkoaa.Man Go.Proofs.YtbacdpagpdmkoaaW.PrintWords Go.Proofs.YtbacdpagpdmkoaaW.PrintLast Go.Proofs.YtbacdpagpdmkoaaW.PrintMore

/-- The inner round: the least of the points behind 'from', up to 'to'. -/
theorem cut_inner (ps : List Int) (hb : ps.length ≤ 281474976710656) (out : List S23) (from_ x0 x1 t : Int) (hout : out.length < 8796093022208) : ∀ (d i k : Nat) (up : Int), ps.length - i = d → i ≤ ps.length → d < k → t ≤ up → (t = up ∨ t ∈ ps.drop i) → from_ < t →
    (∀ p ∈ ps.drop i, from_ < p → p < up → t ≤ p) → (∀ k', k - (d + 1) = k' → True) →
    QA.tollbarref1_CutAt.l1 k ps out from_ up (i : Int) x0 x1 = QA.tollbarref1_CutAt.l0 (k - (d + 1)) ps (out ++ [⟨from_, t⟩]) t x0 x1 := by
  intro d
  induction d with
  | zero =>
    intro i k up hd hil hk h1 h2 h3 h4 _
    obtain ⟨k, rfl⟩ : ∃ m, k = m + 1 := ⟨k - 1, by omega⟩
    simp only [QA.tollbarref1_CutAt.l1]
    have : t = up := by
      rcases h2 with h | h
      · exact h
      · rw [List.drop_of_length_le (by omega)] at h
        cases h
    subst this
    rw [if_neg (by omega), if_pos hout]
    rfl
  | succ d ih =>
    intro i k up hd hil hk h1 h2 h3 h4 _
    obtain ⟨k, rfl⟩ : ∃ m, k = m + 1 := ⟨k - 1, by omega⟩
    have hlt : i < ps.length := by omega
    simp only [QA.tollbarref1_CutAt.l1]
    rw [if_pos (by omega), if_pos (by omega), rd_at ps i hlt, wrap_next i (by omega)]
    have e := List.drop_eq_getElem_cons hlt
    rw [e] at h2 h4
    have hk' : k + 1 - (d + 1 + 1) = k - (d + 1) := by omega
    rw [hk']
    have hrest : ∀ p ∈ ps.drop (i + 1), from_ < p → p < up → t ≤ p := fun p hp => h4 p (List.mem_cons_of_mem _ hp)
    by_cases g1 : ps[i] > from_
    · rw [if_pos g1]
      by_cases g2 : ps[i] < up
      · rw [if_pos g2]
        have g3 := h4 ps[i] (List.mem_cons_self ..) g1 g2
        refine ih (i + 1) k ps[i] (by omega) (by omega) (by omega) g3 ?_ h3 (fun p hp q1 q2 => hrest p hp q1 (by omega)) (fun _ _ => trivial)
        rcases h2 with h | h
        · omega
        · rcases List.mem_cons.1 h with h | h
          · exact .inl h
          · exact .inr h
      · rw [if_neg g2]
        refine ih (i + 1) k up (by omega) (by omega) (by omega) h1 ?_ h3 hrest (fun _ _ => trivial)
        rcases h2 with h | h
        · exact .inl h
        · rcases List.mem_cons.1 h with h | h
          · exact .inl (by omega)
          · exact .inr h
    · rw [if_neg g1]
      refine ih (i + 1) k up (by omega) (by omega) (by omega) h1 ?_ h3 hrest (fun _ _ => trivial)
      rcases h2 with h | h
      · exact .inl h
      · rcases List.mem_cons.1 h with h | h
        · omega
        · exact .inr h

/-- The outer rounds: one part after the other. -/
theorem cut_outer (ps : List Int) (hb : ps.length ≤ 281474976710656) (x0 b : Int) : ∀ (zs : List Int) (out : List S23) (from_ : Int) (k : Nat), zs.Pairwise (· < ·) → (∀ z ∈ zs, from_ < z) →
    (∀ p, p ∈ zs ↔ (p ∈ ps ∧ from_ < p ∧ p < b) ∨ (p = b ∧ from_ < b)) → out.length + zs.length < 8796093022208 → zs.length * (ps.length + 2) < k →
    QA.tollbarref1_CutAt.l0 k ps out from_ x0 b = some (out ++ partsF from_ zs, 0)
  | [], out, from_, k, _, _, hm, _, hk => by
    obtain ⟨k, rfl⟩ : ∃ m, k = m + 1 := ⟨k - 1, by omega⟩
    have : ¬ from_ < b := fun h => by
      have := (hm b).2 (.inr ⟨rfl, h⟩)
      cases this
    simp only [QA.tollbarref1_CutAt.l0]
    rw [if_neg this]
    simp [partsF]
  | t :: r, out, from_, k, hs, hf, hm, ho, hk => by
    obtain ⟨hs1, hs2⟩ := List.pairwise_cons.1 hs
    have hft := hf t (List.mem_cons_self ..)
    have htb : t ≤ b := by
      rcases (hm t).1 (List.mem_cons_self ..) with ⟨_, _, h⟩ | ⟨h, _⟩ <;> omega
    have hlen : (t :: r).length * (ps.length + 2) = r.length * (ps.length + 2) + (ps.length + 2) := by rw [List.length_cons, Nat.add_mul, Nat.one_mul]
    obtain ⟨k, rfl⟩ : ∃ m, k = m + 1 := ⟨k - 1, by omega⟩
    simp only [QA.tollbarref1_CutAt.l0]
    rw [if_pos (by omega)]
    have hin := cut_inner ps hb out from_ x0 b t (by simp at ho; omega) ps.length 0 k b (by omega) (Nat.zero_le _) (by omega) htb ?_ hft ?_ (fun _ _ => trivial)
    · refine hin.trans ?_
      rw [cut_outer ps hb x0 b r (out ++ [(⟨from_, t⟩ : S23)]) t (k - (ps.length + 1)) hs2 (fun z hz => hs1 z hz) ?_ (by simp at ho ⊢; omega) (by omega)]
      · simp [partsF]
      · intro p
        constructor
        · intro hp
          have h1 := hs1 p hp
          rcases (hm p).1 (List.mem_cons_of_mem _ hp) with ⟨a1, a2, a3⟩ | ⟨a1, a2⟩
          · exact .inl ⟨a1, h1, a3⟩
          · exact .inr ⟨a1, by omega⟩
        · intro hp
          have : p ∈ t :: r := by
            refine (hm p).2 ?_
            rcases hp with ⟨a1, a2, a3⟩ | ⟨a1, a2⟩
            · exact .inl ⟨a1, by omega, a3⟩
            · exact .inr ⟨a1, by omega⟩
          rcases List.mem_cons.1 this with h | h
          · rcases hp with ⟨a1, a2, a3⟩ | ⟨a1, a2⟩ <;> omega
          · exact h
    · rw [List.drop_zero]
      rcases (hm t).1 (List.mem_cons_self ..) with ⟨h, _⟩ | ⟨h, _⟩
      · exact .inr h
      · exact .inl h
    · rw [List.drop_zero]
      intro p hp h1 h2
      rcases List.mem_cons.1 ((hm p).2 (.inl ⟨hp, h1, h2⟩)) with h | h
      · omega
      · have := hs1 p h
        omega
theorem parts_mem (a b : Int) (ps : List Int) (h : a < b) (p : Int) : p ∈ uniqF (sortF (b :: within a b ps)) ↔ (p ∈ ps ∧ a < p ∧ p < b) ∨ (p = b ∧ a < b) := by
  rw [uniqF_mem, sortF_mem, List.mem_cons]
  unfold within
  rw [List.mem_filter]
  constructor
  · intro h'
    rcases h' with h' | ⟨h1, h2⟩
    · exact .inr ⟨h', h⟩
    · simp at h2
      exact .inl ⟨h1, h2⟩
  · intro h'
    rcases h' with ⟨h1, h2⟩ | ⟨h1, _⟩
    · exact .inr ⟨h1, by simpa using h2⟩
    · exact .inl h1
theorem cut_at (a b : Int) (ps : List Int) (hb : ps.length ≤ 281474976710656) : ∃ k, QA.tollbarref1_CutAt.f k a b ps = some (cutF a b ps) := by
  refine ⟨(uniqF (sortF (b :: within a b ps))).length * (ps.length + 2) + 1, ?_⟩
  unfold QA.tollbarref1_CutAt.f cutF
  rw [mayA]
  simp only [Option.bind_some]
  cases hm : mayF a b
  · rw [if_neg (by decide), if_neg (by decide)]
  · rw [if_pos rfl, if_pos rfl]
    have hab := mayF_true.1 hm
    have hfew := parts_few a b ps hm
    rw [cut_outer ps hb a b (uniqF (sortF (b :: within a b ps))) [] a _ (uniqF_strict _ (sortF_rising _)) (fun z hz => ?_) (parts_mem a b ps hab.2.1) (by simp; omega) (by omega)]
    · simp
    · rcases (parts_mem a b ps hab.2.1 z).1 hz with ⟨_, h, _⟩ | ⟨h, _⟩ <;> omega
theorem spoil_some : ∀ (d i : Nat) (l : List S23), l.length - i = d → i ≤ l.length → l.length ≤ 281474976710656 → ∃ r, QA.tollbarlaw0_SpoilSpans.l0 (d + 1) l (i : Int) = some r := by
  intro d
  induction d with
  | zero =>
    intro i l hd hi hl
    simp only [QA.tollbarlaw0_SpoilSpans.l0]
    rw [if_neg (by omega)]
    exact ⟨_, rfl⟩
  | succ d ih =>
    intro i l hd hi hl
    simp only [QA.tollbarlaw0_SpoilSpans.l0]
    rw [if_pos (by omega), if_pos (by omega), wrap_next i (by omega)]
    exact ih (i + 1) _ (by rw [List.length_set]; omega) (by rw [List.length_set]; omega) (by rw [List.length_set]; omega)
theorem spoil_is (l : List S23) (hl : l.length ≤ 281474976710656) : ∃ r, QA.tollbarlaw0_SpoilSpans.f (l.length + 1) l = some r := spoil_some l.length 0 l (by omega) (Nat.zero_le _) hl
end Go.Proofs.Ytbacdpagpdmkoaa.Plain2
