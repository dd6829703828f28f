/- Plain laws of the reference: what may be. -/
import Derived.Test.YteikgpdjfhdneaaTellRM
import Derived.Test.YteikgpdjfhdneaaTellK3
set_option linter.unusedVariables false
set_option linter.unusedSimpArgs false
namespace Go.Proofs.Yteikgpdjfhdneaa.TellU
open Go.RowKit Go.Proofs.Yteikgpdjfhdneaa.QT Go.Proofs.Yteikgpdjfhdneaa.Man Go.Proofs.Yteikgpdjfhdneaa.QH Go.Proofs.Yteikgpdjfhdneaa.QR Go.Proofs.Yteikgpdjfhdneaa.WordL Go.Proofs.YteikgpdjfhdneaaW.PrintWords Go.Proofs.YteikgpdjfhdneaaW.PrintLast Go.Proofs.YteikgpdjfhdneaaW.PrintMore
theorem spanMay_is (a b : Int) : tollbarref1_SpanMay.f a b = some (mayF a b) := by
  unfold tollbarref1_SpanMay.f mayF
  by_cases h1 : a ≥ 0
  · rw [if_pos h1]
    by_cases h2 : a < b
    · rw [if_pos h2]; simp [show 0 ≤ a from h1, h2]
    · rw [if_neg h2]; simp [h2]
  · rw [if_neg h1]; simp [show ¬ 0 ≤ a from h1]
def chainL (b : Int) : Int → List Pce → Bool
  | from_, [] => from_ == b
  | from_, p :: r => if p.f0.f0 = from_ then (if mayF p.f0.f0 p.f0.f1 = true then chainL b p.f0.f1 r else false) else false
theorem chain_l0 (ps : List Pce) (a b : Int) (hb : ps.length ≤ 1000000000) : ∀ (d i : Nat) (t : Int) (k : Nat), ps.length - i = d → i ≤ ps.length → d < k → tollbarref19_Chained.l0 k ps t (i : Int) a b = some (chainL b t (ps.drop i)) := by
  intro d
  induction d with
  | zero =>
    intro i t k hd hi hk
    obtain ⟨k, rfl⟩ : ∃ m, k = m + 1 := ⟨k - 1, by omega⟩
    rw [tollbarref19_Chained.l0, if_neg (by omega), List.drop_of_length_le (by omega)]
    rfl
  | succ d ih =>
    intro i t k hd hi hk
    obtain ⟨k, rfl⟩ : ∃ m, k = m + 1 := ⟨k - 1, by omega⟩
    have hx : i < ps.length := by omega
    rw [tollbarref19_Chained.l0, if_pos (by omega), if_pos (by omega), rdQ_at ps i hx, List.drop_eq_getElem_cons hx, chainL]
    by_cases h1 : ps[i].f0.f0 = t
    · rw [if_pos h1, if_pos h1, spanMay_is, Option.bind_some]
      by_cases h2 : mayF ps[i].f0.f0 ps[i].f0.f1 = true
      · rw [if_pos h2, if_pos h2, wrapN i (by omega), ih (i + 1) _ k (by omega) (by omega) (by omega)]
      · rw [if_neg h2, if_neg h2]
    · rw [if_neg h1, if_neg h1]
theorem chained_is (a b : Int) (ps : List Pce) (hb : ps.length ≤ 1000000000) (k : Nat) (hk : ps.length + 1 < k) : tollbarref19_Chained.f k a b ps = some (mayF a b && (decide (1 ≤ ps.length) && chainL b a ps)) := by
  unfold tollbarref19_Chained.f
  obtain ⟨k, rfl⟩ : ∃ m, k = m + 1 := ⟨k - 1, by omega⟩
  rw [spanMay_is, Option.bind_some]
  by_cases h1 : mayF a b = true
  · rw [if_pos h1, h1, tollbarref19_Chained.j0]
    by_cases h2 : ps.length = 0
    · rw [if_pos (by simp [h2]), decide_eq_false (by omega)]
      rfl
    · have h0 := chain_l0 ps a b hb ps.length 0 a k (by omega) (by omega) (by omega)
      rw [List.drop_zero] at h0
      rw [if_neg (by rw [beq_iff_eq]; omega), decide_eq_true (by omega)]
      exact h0
  · rw [if_neg h1, tollbarref19_Chained.j0, if_pos rfl, Bool.eq_false_iff.2 h1]
    rfl
def pathsF (qs : List Pth) : Bool := (decide (1 ≤ qs.length) && decide (qs.length ≤ 16)) && qs.all pathF
theorem pmay_l1 (qs : List Pth) (i : Nat) (hx : i < qs.length) (hb : qs[i].f1.length ≤ 1000000000) : ∀ (d j k : Nat), qs[i].f1.length - j = d → j ≤ qs[i].f1.length →
    tollbarref22_pathsMay.l1 (d + 1 + k) qs (i : Int) (j : Int) = if (qs[i].f1.drop j).all linkF = true then tollbarref22_pathsMay.l0 k qs (wrap64 ((i : Int) + 1)) else some false := by
  intro d
  induction d with
  | zero =>
    intro j k hd hj
    rw [show 0 + 1 + k = k + 1 by omega, tollbarref22_pathsMay.l1, rdP_at qs i hx, if_pos (by omega), if_pos (by omega), if_neg (by omega), List.drop_of_length_le (by omega), List.all_nil, if_pos rfl]
  | succ d ih =>
    intro j k hd hj
    have hy : j < qs[i].f1.length := by omega
    rw [show d + 1 + 1 + k = (d + 1 + k) + 1 by omega, tollbarref22_pathsMay.l1, rdP_at qs i hx, if_pos (by omega), if_pos (by omega), if_pos (by omega), if_pos (by omega), rdI_at _ j hy, List.drop_eq_getElem_cons hy, List.all_cons]
    by_cases h1 : qs[i].f1[j] < 0
    · rw [if_pos h1, if_neg (by simp [linkF]; omega)]
    · rw [if_neg h1]
      by_cases h2 : qs[i].f1[j] ≥ 16
      · rw [if_pos h2, if_neg (by simp [linkF]; omega)]
      · have hl : linkF qs[i].f1[j] = true := by simp [linkF]; omega
        rw [if_neg h2, wrapN j (by omega), ih (j + 1) k (by omega) (by omega), hl, Bool.true_and]
theorem pmay_l0 (qs : List Pth) (hb : costP qs ≤ 1000000000) : ∀ (d i k : Nat), qs.length - i = d → i ≤ qs.length → tollbarref22_pathsMay.l0 (costP (qs.drop i) + 1 + k) qs (i : Int) = some ((qs.drop i).all pathF) := by
  have hbl := costP_len qs
  intro d
  induction d with
  | zero =>
    intro i k hd hi
    rw [List.drop_of_length_le (by omega), show costP [] + 1 + k = k + 1 by simp only [costP]; omega, tollbarref22_pathsMay.l0, if_neg (by omega)]
    rfl
  | succ d ih =>
    intro i k hd hi
    have hx : i < qs.length := by omega
    have hm := costP_mem qs qs[i] (List.getElem_mem hx)
    have ihk := ih (i + 1) k (by omega) (by omega)
    rw [List.drop_eq_getElem_cons hx, List.all_cons]
    rw [show costP (qs[i] :: qs.drop (i + 1)) + 1 + k = ((qs[i].f1.length + 1 + (costP (qs.drop (i + 1)) + 1 + k)) + 1) + 1 by simp only [costP]; omega]
    rw [tollbarref22_pathsMay.l0, if_pos (by omega), if_pos (by omega), rdP_at qs i hx]
    have bad : ∀ m, pathF qs[i] = false → tollbarref22_pathsMay.j2 (m + 1) qs (i : Int) true = some (pathF qs[i] && (qs.drop (i + 1)).all pathF) := by
      intro m h
      rw [tollbarref22_pathsMay.j2, if_pos rfl, h, Bool.false_and]
    by_cases h1 : qs[i].f0 < 1
    · rw [if_pos h1]
      exact bad _ (by simp only [pathF]; rw [decide_eq_false (by omega)]; rfl)
    rw [if_neg h1]
    by_cases h2 : qs[i].f0 > 4611686018427387904
    · rw [if_pos h2]
      exact bad _ (by simp only [pathF, rateF]; rw [decide_eq_false (p := qs[i].f0 ≤ 4611686018427387904) (by omega)]; simp)
    rw [if_neg h2]
    by_cases h3 : (qs[i].f1.length : Int) < 1
    · rw [if_pos h3]
      exact bad _ (by simp only [pathF]; rw [decide_eq_false (p := 1 ≤ qs[i].f1.length) (by omega)]; simp)
    rw [if_neg h3, tollbarref22_pathsMay.j2]
    by_cases h4 : (qs[i].f1.length : Int) > 16
    · rw [decide_eq_true h4, if_pos rfl]
      have : pathF qs[i] = false := by simp only [pathF]; rw [decide_eq_false (p := qs[i].f1.length ≤ 16) (by omega)]; simp
      rw [this, Bool.false_and]
    rw [decide_eq_false h4, if_neg (by simp)]
    have hl := pmay_l1 qs i hx (by omega) qs[i].f1.length 0 (costP (qs.drop (i + 1)) + 1 + k) (by omega) (by omega)
    rw [show ((0 : Nat) : Int) = 0 from rfl, List.drop_zero] at hl
    rw [hl, wrapN i (by omega), ihk]
    have hp : pathF qs[i] = qs[i].f1.all linkF := by
      simp only [pathF, rateF]
      rw [decide_eq_true (by omega), decide_eq_true (by omega), decide_eq_true (by omega), decide_eq_true (by omega), decide_eq_true (by omega)]
      simp
    rw [hp]
    by_cases h5 : qs[i].f1.all linkF = true
    · rw [if_pos h5, h5, Bool.true_and]
    · rw [if_neg h5, Bool.eq_false_iff.2 h5, Bool.false_and]
theorem pathsMay_is (qs : List Pth) (hb : costP qs ≤ 1000000000) (k : Nat) (hk : costP qs + 1 < k) : tollbarref22_pathsMay.f k qs = some (pathsF qs) := by
  have hbl := costP_len qs
  obtain ⟨k, rfl⟩ : ∃ m, k = m + 1 := ⟨k - 1, by omega⟩
  unfold tollbarref22_pathsMay.f pathsF
  by_cases h1 : (qs.length : Int) < 1
  · rw [if_pos h1, tollbarref22_pathsMay.j0, if_pos rfl, decide_eq_false (p := 1 ≤ qs.length) (by omega)]
    rfl
  rw [if_neg h1, tollbarref22_pathsMay.j0]
  by_cases h2 : (qs.length : Int) > 16
  · rw [decide_eq_true h2, if_pos rfl, decide_eq_false (p := qs.length ≤ 16) (by omega)]
    simp
  have h0 := pmay_l0 qs hb qs.length 0 (k - costP qs - 1) (by omega) (by omega)
  rw [List.drop_zero, show costP qs + 1 + (k - costP qs - 1) = k by omega] at h0
  rw [decide_eq_false h2, if_neg (by simp), decide_eq_true (by omega), decide_eq_true (by omega)]
  exact h0
theorem grant_mayl (fr to_ at_ : Int) (vs : List Int) (kind code id rate value : Int) (ps : List Pce) (hb : costQ ps ≤ 1000000000) : ∀ (d i k : Nat), ps.length - i = d → i ≤ ps.length → costQ ps + 1 + d < k →
    tollbarref22_grantMay.l0 k (i : Int) fr to_ at_ vs kind code id rate value ps = some ((ps.drop i).all fun p => pathsF p.f1) := by
  have hbl := costQ_len ps
  intro d
  induction d with
  | zero =>
    intro i k hd hi hk
    obtain ⟨k, rfl⟩ : ∃ m, k = m + 1 := ⟨k - 1, by omega⟩
    rw [tollbarref22_grantMay.l0, if_neg (by omega), List.drop_of_length_le (by omega)]
    rfl
  | succ d ih =>
    intro i k hd hi hk
    obtain ⟨k, rfl⟩ : ∃ m, k = m + 1 := ⟨k - 1, by omega⟩
    have hx : i < ps.length := by omega
    have hm := costQ_mem ps ps[i] (List.getElem_mem hx)
    rw [tollbarref22_grantMay.l0, if_pos (by omega), if_pos (by omega), rdQ_at ps i hx, pathsMay_is _ (by omega) k (by omega), Option.bind_some, List.drop_eq_getElem_cons hx, List.all_cons]
    by_cases h1 : pathsF ps[i].f1 = true
    · rw [if_pos h1, wrapN i (by omega), ih (i + 1) k (by omega) (by omega) (by omega), h1, Bool.true_and]
    · rw [if_neg h1, Bool.eq_false_iff.2 h1, Bool.false_and]
theorem pieces_eq (b : Int) : ∀ (ps : List Pce) (a : Int), piecesL b a ps = (chainL b a ps && ps.all fun p => pathsF p.f1)
  | [], a => by
    simp only [piecesL, chainL, List.all_nil, Bool.and_true]
    by_cases h : a = b <;> simp [h]
  | p :: r, a => by
    unfold piecesL chainL
    rw [List.all_cons]
    by_cases h1 : p.f0.f0 = a
    · rw [if_pos h1]
      by_cases h2 : mayF p.f0.f0 p.f0.f1 = true
      · rw [if_pos h2]
        by_cases h3 : pathsF p.f1 = true
        · have h3' := h3
          simp only [pathsF, Bool.and_eq_true, decide_eq_true_eq] at h3'
          rw [if_pos ⟨⟨h2, h1⟩, h3'.1, h3'.2⟩, h3, Bool.true_and]
          exact pieces_eq b r _
        · rw [if_neg (fun h => h3 (by simp only [pathsF, Bool.and_eq_true, decide_eq_true_eq]; exact ⟨h.2.1, h.2.2⟩)), Bool.eq_false_iff.2 h3]
          simp
      · rw [if_neg h2, if_neg (fun h => h2 h.1.1)]
        rfl
    · rw [if_neg h1, if_neg (fun h => h1 h.1.2)]
      rfl
theorem grant_may (r : Rp) (hb : costQ r.ps ≤ 1000000000) (k : Nat) (hk : 2 * costQ r.ps + 10 < k) (kd : Int) : tollbarref22_grantMay.f k r.fr r.to_ r.at_ r.vs kd r.code r.id r.rate r.value r.ps = some (decide (1 ≤ r.id) && (decide (r.id ≤ 1048576) && (decide (0 < r.rate) && (rateF r.rate && (mayF r.fr r.to_ && piecesF r.fr r.to_ r.ps))))) := by
  have hbl := costQ_len r.ps
  obtain ⟨k, rfl⟩ : ∃ m, k = m + 1 := ⟨k - 1, by omega⟩
  have bad : ∀ b : Bool, b = false → tollbarref22_grantMay.j0 (k + 1) true r.fr r.to_ r.at_ r.vs kd r.code r.id r.rate r.value r.ps = some b := by
    intro b h
    rw [tollbarref22_grantMay.j0, if_pos rfl, h]
  unfold tollbarref22_grantMay.f
  by_cases h1 : r.id < 1
  · rw [if_pos h1]
    exact bad _ (by rw [decide_eq_false (p := 1 ≤ r.id) (by omega)]; rfl)
  rw [if_neg h1]
  by_cases h2 : r.id > 1048576
  · rw [if_pos h2]
    exact bad _ (by rw [decide_eq_false (p := r.id ≤ 1048576) (by omega)]; simp)
  rw [if_neg h2]
  by_cases h3 : r.rate < 1
  · rw [if_pos h3]
    exact bad _ (by rw [decide_eq_false (p := 0 < r.rate) (by omega)]; simp)
  rw [if_neg h3]
  by_cases h4 : r.rate > 4611686018427387904
  · rw [if_pos h4]
    exact bad _ (by unfold rateF; rw [decide_eq_false (p := r.rate ≤ 4611686018427387904) (by omega)]; simp)
  rw [if_neg h4]
  by_cases h5 : (r.ps.length : Int) > 8
  · rw [if_pos h5]
    exact bad _ (by unfold piecesF; rw [decide_eq_false (p := r.ps.length ≤ 8) (by omega)]; simp)
  rw [if_neg h5, chained_is _ _ _ (by omega) (k + 1) (by omega), Option.bind_some, tollbarref22_grantMay.j0]
  have h0 := grant_mayl r.fr r.to_ r.at_ r.vs kd r.code r.id r.rate r.value r.ps hb r.ps.length 0 k (by omega) (by omega) (by omega)
  rw [List.drop_zero, show ((0 : Nat) : Int) = 0 from rfl] at h0
  rw [decide_eq_true (p := 1 ≤ r.id) (by omega), decide_eq_true (p := r.id ≤ 1048576) (by omega), decide_eq_true (p := 0 < r.rate) (by omega), show rateF r.rate = true by unfold rateF; rw [decide_eq_true (by omega), decide_eq_true (by omega)]; rfl]
  simp only [Bool.true_and]
  unfold piecesF
  rw [pieces_eq, decide_eq_true (p := r.ps.length ≤ 8) (by omega), Bool.true_and, h0]
  generalize (r.ps.all fun p => pathsF p.f1) = u
  generalize chainL r.to_ r.fr r.ps = v
  generalize mayF r.fr r.to_ = x
  generalize decide (1 ≤ r.ps.length) = y
  cases x <;> cases y <;> cases v <;> simp
theorem verts_l0 (vs : List Int) (at_ : Int) (hb : vs.length ≤ 1000000000) : ∀ (d i k : Nat), vs.length - i = d → i ≤ vs.length → d < k → tollbarref22_cutMay.l0 k (i : Int) at_ vs = some (vertsL (before vs i) (vs.drop i)) := by
  intro d
  induction d with
  | zero =>
    intro i k hd hi hk
    obtain ⟨k, rfl⟩ : ∃ m, k = m + 1 := ⟨k - 1, by omega⟩
    rw [tollbarref22_cutMay.l0, if_neg (by omega), List.drop_of_length_le (by omega)]
    rfl
  | succ d ih =>
    intro i k hd hi hk
    obtain ⟨k, rfl⟩ : ∃ m, k = m + 1 := ⟨k - 1, by omega⟩
    have hx : i < vs.length := by omega
    have hb1 : before vs (i + 1) = some vs[i] := by simp [before, hx]
    rw [tollbarref22_cutMay.l0, if_pos (by omega), if_pos (by omega), rdI_at vs i hx, List.drop_eq_getElem_cons hx, vertsL]
    by_cases h1 : vs[i] < 0
    · rw [if_pos h1, if_neg (fun h => by omega)]
    rw [if_neg h1]
    by_cases h2 : vs[i] ≥ 8
    · rw [if_pos h2, if_neg (fun h => by omega)]
    rw [if_neg h2]
    by_cases h3 : i = 0
    · subst h3
      have hbz : before vs 0 = none := rfl
      have h0 := ih 1 k (by omega) (by omega) (by omega)
      rw [if_neg (by omega), if_pos ⟨⟨by omega, by omega⟩, fun q hq => by rw [hbz] at hq; cases hq⟩, wrapN 0 (by omega), h0, hb1]
    · have hw : wrap64 ((i : Int) - 1) = ((i - 1 : Nat) : Int) := by
        unfold wrap64
        omega
      have hy : i - 1 < vs.length := by omega
      have hbi : before vs i = some vs[i - 1] := by simp [before, h3, hy]
      rw [if_pos (by omega), hw, if_pos (by omega), if_pos (by omega), rdI_at vs (i - 1) hy]
      by_cases h4 : vs[i] ≤ vs[i - 1]
      · rw [if_pos h4, if_neg (fun h => by have := h.2 _ hbi; omega)]
      · rw [if_neg h4, if_pos ⟨⟨by omega, by omega⟩, fun q hq => by rw [hbi] at hq; injection hq with hq; omega⟩, wrapN i (by omega), ih (i + 1) k (by omega) (by omega) (by omega), hb1]
theorem cut_may (at_ : Int) (vs : List Int) (hb : vs.length ≤ 1000000000) (k : Nat) (hk : vs.length + 1 < k) : tollbarref22_cutMay.f k at_ vs = some (decide (0 ≤ at_) && (decide (at_ < 4096) && vertsF vs)) := by
  obtain ⟨k, rfl⟩ : ∃ m, k = m + 1 := ⟨k - 1, by omega⟩
  unfold tollbarref22_cutMay.f
  by_cases h1 : at_ < 0
  · rw [if_pos h1, tollbarref22_cutMay.j0, if_pos rfl, decide_eq_false (p := 0 ≤ at_) (by omega)]
    rfl
  rw [if_neg h1]
  by_cases h2 : at_ ≥ 4096
  · rw [if_pos h2, tollbarref22_cutMay.j0, if_pos rfl, decide_eq_false (p := at_ < 4096) (by omega)]
    simp
  rw [if_neg h2, tollbarref22_cutMay.j0, decide_eq_true (p := 0 ≤ at_) (by omega), decide_eq_true (p := at_ < 4096) (by omega)]
  unfold vertsF
  by_cases h3 : vs.length = 0
  · rw [if_pos (decide_eq_true (by omega)), decide_eq_false (p := 0 < vs.length) (by omega)]
    simp
  have h0 := verts_l0 vs at_ hb vs.length 0 k (by omega) (by omega) (by omega)
  rw [List.drop_zero, show ((0 : Nat) : Int) = 0 from rfl] at h0
  rw [if_neg (by simp; omega), decide_eq_true (p := 0 < vs.length) (by omega), h0]
  simp [before]
theorem plain_pl {r : Rp} (h : plF r = true) : plain r = r := by
  obtain ⟨fr, to_, at_, vs, kind, code, id, rate, value, ps⟩ := r
  unfold plF at h
  unfold isPlF at h
  unfold plain
  simp only at h ⊢
  by_cases h1 : kind = 1
  · subst h1
    simp only [if_true] at h ⊢
    obtain ⟨rfl, rfl, rfl, e4, _, rfl, rfl, rfl, e9⟩ := same_of h
    rw [nil_of e4, nil_of e9]
  by_cases h2 : kind = 2
  · subst h2
    simp only [if_true, Int.reduceEq, if_false] at h ⊢
    obtain ⟨_, _, rfl, e4, rfl, _, _, rfl, _⟩ := same_of h
    rw [nil_of e4]
  by_cases h3 : kind = 3
  · subst h3
    simp only [if_true, Int.reduceEq, if_false] at h ⊢
    obtain ⟨rfl, rfl, _, _, rfl, rfl, rfl, rfl, e9⟩ := same_of h
    rw [nil_of e9]
  by_cases h5 : kind = 5
  · subst h5
    simp only [if_true, Int.reduceEq, if_false] at h ⊢
    obtain ⟨rfl, rfl, rfl, e4, rfl, rfl, rfl, _, e9⟩ := same_of h
    rw [nil_of e4, nil_of e9]
  simp only [h1, h2, h3, h5, if_false] at h ⊢
  obtain ⟨rfl, rfl, rfl, e4, rfl, rfl, rfl, rfl, e9⟩ := same_of h
  rw [nil_of e4, nil_of e9]
theorem pl_iff (r : Rp) : plF r = decide (plain r = r) := by
  rw [Bool.eq_iff_iff, decide_eq_true_eq]
  constructor
  · intro h
    exact plain_pl h
  · intro h
    rw [← h]
    unfold plF plain isPlF
    by_cases h1 : r.kind = 1
    · simp [h1, samePl]
    by_cases h2 : r.kind = 2
    · simp [h2, samePl]
    by_cases h3 : r.kind = 3
    · simp [h3, samePl]
    by_cases h5 : r.kind = 5
    · simp [h5, samePl]
    simp [h1, h2, h3, h5, samePl]
theorem replyMay_is (r : Rp) (hv : r.vs.length ≤ 1000000000) (hp : costQ r.ps ≤ 1000000000) (k : Nat) (hk : r.vs.length + 1 < k) (hk2 : 2 * costQ r.ps + 10 < k) : tollbarref22_ReplyMay.f k r.fr r.to_ r.at_ r.vs r.kind r.code r.id r.rate r.value r.ps = some (tellF r) := by
  have hs : ∀ q : Rp, q.vs.length ≤ r.vs.length → costQ q.ps ≤ costQ r.ps → plain r = q → tollbarref19_SameReply.f k q.fr q.to_ q.at_ q.vs q.kind q.code q.id q.rate q.value q.ps r.fr r.to_ r.at_ r.vs r.kind r.code r.id r.rate r.value r.ps = some (plF r) := by
    intro q h1 h2 h3
    rw [same_ref q r (by omega) (by omega) k (by omega) (by omega), pl_iff, h3]
  unfold tollbarref22_ReplyMay.f tellF kindF
  by_cases k1 : r.kind = 1
  · rw [if_pos k1, if_pos k1]
    have h := hs ⟨0, 0, 0, [], r.kind, r.code, 0, 0, 0, []⟩ (by simp) (by simp [costQ]) (by simp [plain, k1])
    by_cases hc : 1 ≤ r.code ∧ r.code ≤ 9
    · rw [if_pos hc, decide_eq_true hc.1, decide_eq_true hc.2, Bool.and_true, Bool.and_true]
      exact h
    · rw [if_neg hc]
      have : (decide (1 ≤ r.code) && decide (r.code ≤ 9)) = false := by simpa using hc
      rw [this, Bool.and_false]
  rw [if_neg k1, if_neg k1]
  by_cases k2 : r.kind = 2
  · rw [if_pos k2, if_pos k2, grant_may r hp k hk2]
    have h := hs ⟨r.fr, r.to_, 0, [], r.kind, 0, r.id, r.rate, 0, r.ps⟩ (by simp) (Nat.le_refl _) (by simp [plain, k2])
    generalize (decide (1 ≤ r.id) && (decide (r.id ≤ 1048576) && (decide (0 < r.rate) && (rateF r.rate && (mayF r.fr r.to_ && piecesF r.fr r.to_ r.ps))))) = g
    rw [Option.bind_some]
    cases g
    · rw [if_neg (by simp), Bool.and_false]
    · rw [if_pos rfl, Bool.and_true]
      exact h
  rw [if_neg k2, if_neg k2]
  by_cases k3 : r.kind = 3
  · rw [if_pos k3, if_pos k3, cut_may r.at_ r.vs hv k hk]
    have h := hs ⟨0, 0, r.at_, r.vs, r.kind, 0, 0, 0, 0, []⟩ (Nat.le_refl _) (by simp [costQ]) (by simp [plain, k3])
    generalize (decide (0 ≤ r.at_) && (decide (r.at_ < 4096) && vertsF r.vs)) = g
    rw [Option.bind_some]
    cases g
    · rw [if_neg (by simp), Bool.and_false]
    · rw [if_pos rfl, Bool.and_true]
      exact h
  rw [if_neg k3, if_neg k3]
  by_cases k4 : r.kind = 4
  · have k5 : ¬ r.kind = 5 := by omega
    rw [if_pos k4, if_neg k5, decide_eq_true k4, Bool.and_true]
    exact hs ⟨0, 0, 0, [], r.kind, 0, 0, 0, 0, []⟩ (by simp) (by simp [costQ]) (by simp [plain, k4])
  rw [if_neg k4]
  by_cases k5 : r.kind = 5
  · rw [if_pos k5, if_pos k5]
    have h := hs ⟨0, 0, 0, [], r.kind, 0, 0, 0, r.value, []⟩ (by simp) (by simp [costQ]) (by simp [plain, k5])
    unfold rateF
    by_cases hc : 0 ≤ r.value ∧ r.value ≤ 4611686018427387904
    · rw [if_pos hc, decide_eq_true hc.1, decide_eq_true hc.2, Bool.and_true, Bool.and_true]
      exact h
    · rw [if_neg hc]
      have : (decide (0 ≤ r.value) && decide (r.value ≤ 4611686018427387904)) = false := by simpa using hc
      rw [this, Bool.and_false]
  rw [if_neg k5, if_neg k5, decide_eq_false k4, Bool.and_false]
end Go.Proofs.Yteikgpdjfhdneaa.TellU
