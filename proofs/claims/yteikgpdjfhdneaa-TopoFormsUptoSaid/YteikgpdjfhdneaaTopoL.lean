/- Plain laws of graphs as bytes: what is written, what is read, what may be. -/
import Derived.Test.YteikgpdjfhdneaaTopoR
import Derived.Test.YteikgpdjfhdneaaWordL
set_option linter.unusedVariables false
set_option linter.unusedSimpArgs false
namespace Go.Proofs.Yteikgpdjfhdneaa.TopoL
open Go.RowKit Go.Proofs.Yteikgpdjfhdneaa.QT Go.Proofs.Yteikgpdjfhdneaa.QA Go.Proofs.Yteikgpdjfhdneaa.Man Go.Proofs.Yteikgpdjfhdneaa.WordM Go.Proofs.Yteikgpdjfhdneaa.WordL Go.Proofs.YteikgpdjfhdneaaW.PrintWords Go.Proofs.YteikgpdjfhdneaaW.PrintLast Go.Proofs.YteikgpdjfhdneaaW.PrintMore

abbrev Lk := S60
theorem rd_at (xs : List Int) (i : Nat) (h : i < xs.length) : rd xs (i : Int) = xs[i] := by
  unfold rd
  simp [h]
theorem rl_at (ls : List Lk) (i : Nat) (h : i < ls.length) : rd_T60 ls (i : Int) = ls[i] := by
  unfold rd_T60
  simp [h]
theorem wrap_next (i : Nat) (h : i ≤ 4611686018427387904) : wrap64 ((i : Int) + 1) = ((i + 1 : Nat) : Int) := by
  unfold wrap64
  omega

def linkOk (v : Int) (l : Lk) : Bool := (decide (0 ≤ l.f0) && decide (l.f0 < v)) && ((decide (0 ≤ l.f1) && decide (l.f1 < v)) && !(l.f0 == l.f1))
def capsOk : Int → List Int → Bool
  | _, [] => true
  | acc, c :: r => (decide (0 ≤ c) && decide (c ≤ 4611686018427387904 - acc)) && capsOk (acc + c) r
/-- The graph may be. -/
def mayG (v : Int) (ls : List Lk) : Bool := (decide (2 ≤ v) && decide (v ≤ 8)) && (decide (ls.length ≤ 16) && (ls.all (linkOk v) && capsOk 0 (ls.map (·.f2))))

theorem has_is (v : Int) (ls : List Lk) (x : Int) : graph_Has.f v ls x = some (decide (0 ≤ x) && decide (x < v)) := by
  unfold graph_Has.f
  by_cases h : x ≥ 0
  · rw [if_pos h]; simp [show 0 ≤ x from h]
  · rw [if_neg h]; simp [show ¬ 0 ≤ x from h]
theorem vertex_is (v : Int) (ls : List Lk) (x : Int) : tollbarref4_Vertex.f v ls x = some (decide (0 ≤ x) && decide (x < v)) := has_is v ls x
theorem is_is (x : Int) : rate_Is.f x = some (decide (0 ≤ x) && decide (x ≤ 4611686018427387904)) := by
  unfold rate_Is.f
  by_cases h : x ≥ 0
  · rw [if_pos h]; simp [show 0 ≤ x from h]
  · rw [if_neg h]; simp [show ¬ 0 ≤ x from h]

theorem sum_l0 (xs : List Int) (hb : xs.length ≤ 1000000) : ∀ (d i : Nat) (acc : Int) (k : Nat), xs.length - i = d → i ≤ xs.length → d < k → 0 ≤ acc → acc ≤ 4611686018427387904 →
    ∃ s, rate_Sum.l0 k acc xs (xs.length : Int) (i : Int) = some (s, capsOk acc (xs.drop i)) := by
  intro d
  induction d with
  | zero =>
    intro i acc k hd hi hk h0 h1
    obtain ⟨k, rfl⟩ : ∃ m, k = m + 1 := ⟨k - 1, by omega⟩
    rw [rate_Sum.l0, if_neg (by omega), List.drop_of_length_le (by omega)]
    exact ⟨_, rfl⟩
  | succ d ih =>
    intro i acc k hd hi hk h0 h1
    obtain ⟨k, rfl⟩ : ∃ m, k = m + 1 := ⟨k - 1, by omega⟩
    have hlt : i < xs.length := by omega
    rw [rate_Sum.l0, if_pos (by omega), if_pos (by omega), if_pos (by omega), rd_at xs i hlt, is_is, Option.bind_some, wrap_next i (by omega), List.drop_eq_getElem_cons hlt, capsOk]
    obtain ⟨c, hc⟩ : ∃ c, xs[i] = c := ⟨_, rfl⟩
    rw [hc]
    have hw : wrap64 (4611686018427387904 - acc) = 4611686018427387904 - acc := by unfold wrap64; omega
    rw [hw]
    by_cases c0 : 0 ≤ c
    case neg =>
      rw [if_neg (by simp [c0])]
      exact ⟨0, by simp [c0]⟩
    by_cases c1 : c ≤ 4611686018427387904
    case neg =>
      rw [if_neg (by simp [c1])]
      exact ⟨0, by
        have : ¬ c ≤ 4611686018427387904 - acc := by omega
        simp [this]⟩
    rw [if_pos (by simp [c0, c1])]
    by_cases c2 : c ≤ 4611686018427387904 - acc
    case neg =>
      rw [if_pos (by omega)]
      exact ⟨0, by simp [c2]⟩
    rw [if_neg (by omega)]
    have hw2 : wrap64 (acc + c) = acc + c := by unfold wrap64; omega
    rw [hw2]
    obtain ⟨s, hs⟩ := ih (i + 1) (acc + c) k (by omega) (by omega) (by omega) (by omega) (by omega)
    exact ⟨s, by rw [hs]; simp [c0, c2]⟩

theorem caps_l0 (ls : List Lk) (v : Int) (hb : ls.length ≤ 1000000) : ∀ (d i : Nat) (acc : List Int) (k : Nat), ls.length - i = d → i ≤ ls.length → d < k → acc.length + d ≤ 2000000 →
    graph_Caps.l0 k acc ls (ls.length : Int) (i : Int) = some (acc ++ (ls.drop i).map (·.f2)) := by
  intro d
  induction d with
  | zero =>
    intro i acc k hd hi hk ha
    obtain ⟨k, rfl⟩ : ∃ m, k = m + 1 := ⟨k - 1, by omega⟩
    rw [graph_Caps.l0, if_neg (by omega), List.drop_of_length_le (by omega)]
    simp
  | succ d ih =>
    intro i acc k hd hi hk ha
    obtain ⟨k, rfl⟩ : ∃ m, k = m + 1 := ⟨k - 1, by omega⟩
    have hlt : i < ls.length := by omega
    rw [graph_Caps.l0, if_pos (by omega), if_pos (by omega), if_pos (by omega), if_pos (by omega), rl_at ls i hlt, wrap_next i (by omega), ih (i + 1) _ k (by omega) (by omega) (by omega) (by simp; omega), List.drop_eq_getElem_cons hlt, List.map_cons, List.append_assoc]
    rfl

theorem may_l0 (ls : List Lk) (v : Int) (hb : ls.length ≤ 16) : ∀ (d i k : Nat), ls.length - i = d → i ≤ ls.length → d + ls.length + 2 ≤ k →
    graph_May.l0 k ls (ls.length : Int) (i : Int) v ls = some ((ls.drop i).all (linkOk v) && capsOk 0 (ls.map (·.f2))) := by
  intro d
  induction d with
  | zero =>
    intro i k hd hi hk
    obtain ⟨k, rfl⟩ : ∃ m, k = m + 1 := ⟨k - 1, by omega⟩
    have hl : (ls.map (·.f2)).length = ls.length := by simp
    obtain ⟨s, hs⟩ := sum_l0 (ls.map (·.f2)) (by omega) ls.length 0 0 k (by omega) (by omega) (by omega) (by omega) (by omega)
    have hc := caps_l0 ls v (by omega) ls.length 0 [] k (by omega) (by omega) (by omega) (by simp; omega)
    rw [graph_May.l0, if_neg (by omega), graph_Caps.f]
    have hc' : graph_Caps.l0 k [] ls (ls.length : Int) 0 = some (ls.map (·.f2)) := by simpa using hc
    have hs' : rate_Sum.f k (ls.map (·.f2)) = some (s, capsOk 0 (ls.map (·.f2))) := by
      rw [rate_Sum.f]
      simpa using hs
    rw [hc', Option.bind_some, hs', Option.bind_some, List.drop_of_length_le (by omega)]
    simp
  | succ d ih =>
    intro i k hd hi hk
    obtain ⟨k, rfl⟩ : ∃ m, k = m + 1 := ⟨k - 1, by omega⟩
    have hlt : i < ls.length := by omega
    rw [graph_May.l0, if_pos (by omega), if_pos (by omega), if_pos (by omega), rl_at ls i hlt, wrap_next i (by omega), has_is, Option.bind_some, has_is, Option.bind_some, ih (i + 1) k (by omega) (by omega) (by omega), List.drop_eq_getElem_cons hlt, List.all_cons]
    obtain ⟨l, hl⟩ : ∃ l, ls[i] = l := ⟨_, rfl⟩
    rw [hl]
    unfold linkOk
    cases h0 : (decide (0 ≤ l.f0) && decide (l.f0 < v))
    · simp
    · cases h1 : (decide (0 ≤ l.f1) && decide (l.f1 < v))
      · simp
      · by_cases h2 : l.f0 = l.f1
        · simp [h2]
        · have h3 : (l.f0 == l.f1) = false := by simpa using h2
          simp [h2, h3]
theorem may_is (v : Int) (ls : List Lk) (k : Nat) (hk : 40 ≤ k) : graph_May.f k v ls = some (mayG v ls) := by
  obtain ⟨k, rfl⟩ : ∃ m, k = m + 1 := ⟨k - 1, by omega⟩
  unfold graph_May.f mayG
  by_cases h0 : v < 2
  · rw [if_pos h0, graph_May.j0, if_pos rfl]
    simp [show ¬ 2 ≤ v by omega]
  rw [if_neg h0]
  by_cases h1 : v > 8
  · rw [if_pos h1, graph_May.j0, if_pos rfl]
    simp [show ¬ v ≤ 8 by omega]
  rw [if_neg h1, graph_May.j0]
  by_cases h2 : ls.length ≤ 16
  · rw [if_neg (by simp; omega)]
    have := may_l0 ls v h2 ls.length 0 k (by omega) (by omega) (by omega)
    rw [List.drop_zero] at this
    rw [show ((0 : Nat) : Int) = 0 from rfl] at this
    rw [this]
    simp [show 2 ≤ v by omega, show v ≤ 8 by omega, h2]
  · rw [if_pos (by simp; omega)]
    simp [h2]

def allR (v : Int) : Int → List Lk → Bool
  | _, [] => true
  | acc, l :: r => linkOk v l && ((decide (0 ≤ l.f2) && decide (l.f2 ≤ 4611686018427387904 - acc)) && allR v (acc + l.f2) r)
theorem allR_is (v : Int) : ∀ (ls : List Lk) (acc : Int), allR v acc ls = (ls.all (linkOk v) && capsOk acc (ls.map (·.f2)))
  | [], _ => rfl
  | l :: r, acc => by
    rw [allR, allR_is v r, List.all_cons, List.map_cons, capsOk]
    cases linkOk v l <;> cases (decide (0 ≤ l.f2) && decide (l.f2 ≤ 4611686018427387904 - acc)) <;> simp
theorem gmay_l0 (ls : List Lk) (v : Int) (hb : ls.length ≤ 16) : ∀ (d i : Nat) (acc : Int) (k : Nat), ls.length - i = d → i ≤ ls.length → d < k → 0 ≤ acc → acc ≤ 4611686018427387904 →
    tollbarref4_GraphMay.l0 k acc (i : Int) v ls = some (allR v acc (ls.drop i)) := by
  intro d
  induction d with
  | zero =>
    intro i acc k hd hi hk h0 h1
    obtain ⟨k, rfl⟩ : ∃ m, k = m + 1 := ⟨k - 1, by omega⟩
    rw [tollbarref4_GraphMay.l0, if_neg (by omega), List.drop_of_length_le (by omega)]
    rfl
  | succ d ih =>
    intro i acc k hd hi hk h0 h1
    obtain ⟨k, rfl⟩ : ∃ m, k = m + 1 := ⟨k - 1, by omega⟩
    have hlt : i < ls.length := by omega
    have hw : wrap64 (4611686018427387904 - acc) = 4611686018427387904 - acc := by unfold wrap64; omega
    rw [tollbarref4_GraphMay.l0, if_pos (by omega), if_pos (by omega), rl_at ls i hlt, wrap_next i (by omega), vertex_is, Option.bind_some, vertex_is, Option.bind_some, hw, List.drop_eq_getElem_cons hlt, allR]
    obtain ⟨l, hl⟩ : ∃ l, ls[i] = l := ⟨_, rfl⟩
    rw [hl]
    unfold linkOk
    cases g0 : (decide (0 ≤ l.f0) && decide (l.f0 < v))
    · simp
    cases g1 : (decide (0 ≤ l.f1) && decide (l.f1 < v))
    · simp
    by_cases g2 : l.f0 = l.f1
    · simp [g2]
    by_cases c0 : l.f2 < 0
    · simp [g2, c0, show ¬ 0 ≤ l.f2 by omega]
    by_cases c1 : l.f2 > 4611686018427387904 - acc
    · simp [g2, c0, c1, show ¬ l.f2 ≤ 4611686018427387904 - acc by omega]
    have hw2 : wrap64 (acc + l.f2) = acc + l.f2 := by unfold wrap64; omega
    rw [hw2, ih (i + 1) (acc + l.f2) k (by omega) (by omega) (by omega) (by omega) (by omega)]
    simp [g2, c0, c1, show 0 ≤ l.f2 by omega, show l.f2 ≤ 4611686018427387904 - acc by omega]
theorem gmay_is (v : Int) (ls : List Lk) (k : Nat) (hk : 40 ≤ k) : tollbarref4_GraphMay.f k v ls = some (mayG v ls) := by
  obtain ⟨k, rfl⟩ : ∃ m, k = m + 1 := ⟨k - 1, by omega⟩
  unfold tollbarref4_GraphMay.f mayG
  by_cases h0 : v < 2
  · rw [if_pos h0, tollbarref4_GraphMay.j0, if_pos rfl]
    simp [show ¬ 2 ≤ v by omega]
  rw [if_neg h0]
  by_cases h1 : v > 8
  · rw [if_pos h1, tollbarref4_GraphMay.j0, if_pos rfl]
    simp [show ¬ v ≤ 8 by omega]
  rw [if_neg h1, tollbarref4_GraphMay.j0]
  by_cases h2 : ls.length ≤ 16
  · rw [if_neg (by simp; omega)]
    have := gmay_l0 ls v h2 ls.length 0 0 k (by omega) (by omega) (by omega) (by omega) (by omega)
    rw [List.drop_zero, allR_is] at this
    rw [show ((0 : Nat) : Int) = 0 from rfl] at this
    rw [this]
    simp [show 2 ≤ v by omega, show v ≤ 8 by omega, h2]
  · rw [if_pos (by simp; omega)]
    simp [h2]

/-! ### What is written -/
def flat (ls : List Lk) : List Int := ls.flatMap fun l => [l.f0, l.f1, l.f2]
def numsT (v : Int) (ls : List Lk) : List Int := v :: (ls.length : Int) :: flat ls
def bytesT (v : Int) (ls : List Lk) : ByteArray := ⟨(encs (numsT v ls)).toArray⟩
theorem flat_len : ∀ (ls : List Lk), (flat ls).length = 3 * ls.length
  | [] => rfl
  | l :: r => by
    have := flat_len r
    simp only [flat, List.flatMap_cons, List.length_append, List.length_cons, List.length_nil] at this ⊢
    omega
theorem caps_mem : ∀ (cs : List Int) (acc : Int), 0 ≤ acc → capsOk acc cs = true → ∀ c ∈ cs, 0 ≤ c ∧ c ≤ 4611686018427387904
  | [], _, _, _, c, hc => by cases hc
  | x :: r, acc, h0, h, c, hc => by
    rw [capsOk, Bool.and_eq_true, Bool.and_eq_true, decide_eq_true_eq, decide_eq_true_eq] at h
    rcases List.mem_cons.1 hc with rfl | hc
    · omega
    · exact caps_mem r (acc + x) (by omega) h.2 c hc
theorem may_parts {v : Int} {ls : List Lk} (h : mayG v ls = true) : 2 ≤ v ∧ v ≤ 8 ∧ ls.length ≤ 16 ∧ (∀ l ∈ ls, (0 ≤ l.f0 ∧ l.f0 < v) ∧ (0 ≤ l.f1 ∧ l.f1 < v) ∧ 0 ≤ l.f2 ∧ l.f2 ≤ 4611686018427387904) := by
  unfold mayG at h
  simp only [Bool.and_eq_true, decide_eq_true_eq, List.all_eq_true] at h
  obtain ⟨⟨h1, h2⟩, h3, h4, h5⟩ := h
  refine ⟨h1, h2, h3, fun l hl => ?_⟩
  have g := h4 l hl
  have c := caps_mem _ 0 (by omega) h5 l.f2 (List.mem_map_of_mem hl)
  unfold linkOk at g
  simp only [Bool.and_eq_true, decide_eq_true_eq] at g
  exact ⟨g.1, g.2.1, c⟩
theorem may_rates {v : Int} {ls : List Lk} (h : mayG v ls = true) : rates (numsT v ls) := by
  obtain ⟨h1, h2, h3, h4⟩ := may_parts h
  intro x hx
  rcases List.mem_cons.1 hx with rfl | hx
  · omega
  rcases List.mem_cons.1 hx with rfl | hx
  · omega
  obtain ⟨l, hl, hx⟩ := List.mem_flatMap.1 hx
  have := h4 l hl
  simp at hx
  rcases hx with rfl | rfl | rfl <;> omega
theorem flat_drop (ls : List Lk) (i : Nat) (h : i < ls.length) : flat (ls.drop i) = [ls[i].f0, ls[i].f1, ls[i].f2] ++ flat (ls.drop (i + 1)) := by
  rw [List.drop_eq_getElem_cons h]
  rfl
theorem write_l0 (ls : List Lk) (hb : ls.length ≤ 16) : ∀ (d i : Nat) (acc : List Int) (k : Nat), ls.length - i = d → i ≤ ls.length → d < k → acc.length ≤ 1000000 + 3 * i →
    topo_Write.l0 k acc ls (ls.length : Int) (i : Int) = (word_Put.f (acc ++ flat (ls.drop i))).bind fun p => if p.2 = 0 then some (p.1, 0) else some (⟨#[]⟩, 2400) := by
  intro d
  induction d with
  | zero =>
    intro i acc k hd hi hk ha
    obtain ⟨k, rfl⟩ : ∃ m, k = m + 1 := ⟨k - 1, by omega⟩
    rw [topo_Write.l0, if_neg (by omega), List.drop_of_length_le (by omega)]
    simp [flat]
  | succ d ih =>
    intro i acc k hd hi hk ha
    obtain ⟨k, rfl⟩ : ∃ m, k = m + 1 := ⟨k - 1, by omega⟩
    have hlt : i < ls.length := by omega
    rw [topo_Write.l0, if_pos (by omega), if_pos (by omega), if_pos (by omega), Option.bind_some, if_pos (by simp; omega), rl_at ls i hlt, wrap_next i (by omega), ih (i + 1) _ k (by omega) (by omega) (by omega) (by simp; omega), flat_drop ls i hlt, List.append_assoc]
theorem rwrite_l0 (v : Int) (ls : List Lk) (hb : ls.length ≤ 16) : ∀ (d i : Nat) (acc : List Int) (k : Nat), ls.length - i = d → i ≤ ls.length → d < k → acc.length ≤ 1000000 + 3 * i →
    tollbarref22_WriteTopo.l0 k acc (i : Int) v ls = (word_Put.f (acc ++ flat (ls.drop i))).bind fun p => some (p.1, 0) := by
  intro d
  induction d with
  | zero =>
    intro i acc k hd hi hk ha
    obtain ⟨k, rfl⟩ : ∃ m, k = m + 1 := ⟨k - 1, by omega⟩
    rw [tollbarref22_WriteTopo.l0, if_neg (by omega), List.drop_of_length_le (by omega)]
    simp [flat]
    rfl
  | succ d ih =>
    intro i acc k hd hi hk ha
    obtain ⟨k, rfl⟩ : ∃ m, k = m + 1 := ⟨k - 1, by omega⟩
    have hlt : i < ls.length := by omega
    rw [tollbarref22_WriteTopo.l0, if_pos (by omega), if_pos (by omega), Option.bind_some, if_pos (by simp; omega), rl_at ls i hlt, wrap_next i (by omega), ih (i + 1) _ k (by omega) (by omega) (by omega) (by simp; omega), flat_drop ls i hlt, List.append_assoc]
theorem put_nums {v : Int} {ls : List Lk} (h : mayG v ls = true) : word_Put.f (numsT v ls) = some (bytesT v ls, 0) := by
  obtain ⟨_, _, h3, _⟩ := may_parts h
  have hl : (numsT v ls).length ≤ 50 := by
    have := flat_len ls
    simp only [numsT, List.length_cons]
    omega
  rw [word_Put.f, put_is _ (by omega), if_pos (may_rates h)]
  rfl
theorem write_may {v : Int} {ls : List Lk} (h : mayG v ls = true) (k : Nat) (hk : 40 ≤ k) : topo_Write.f k v ls = some (bytesT v ls, 0) := by
  obtain ⟨_, _, h3, _⟩ := may_parts h
  rw [topo_Write.f, may_is v ls k hk, h, Option.bind_some, if_pos rfl]
  have := write_l0 ls h3 ls.length 0 [v, (ls.length : Int)] k (by omega) (by omega) (by omega) (by simp)
  rw [List.drop_zero] at this
  rw [show ((0 : Nat) : Int) = 0 from rfl] at this
  rw [this]
  show (word_Put.f (numsT v ls)).bind _ = _
  rw [put_nums h, Option.bind_some, if_pos rfl]
theorem write_not {v : Int} {ls : List Lk} (h : ¬ mayG v ls = true) (k : Nat) (hk : 40 ≤ k) : topo_Write.f k v ls = some (⟨#[]⟩, 2400) := by
  rw [topo_Write.f, may_is v ls k hk, Option.bind_some, if_neg h]
theorem rwrite_is (v : Int) (ls : List Lk) (k : Nat) (hk : 40 ≤ k) : tollbarref22_WriteTopo.f k v ls = topo_Write.f k v ls := by
  by_cases h : mayG v ls = true
  · obtain ⟨_, _, h3, _⟩ := may_parts h
    rw [write_may h k hk, tollbarref22_WriteTopo.f, gmay_is v ls k hk, h, Option.bind_some, if_pos rfl]
    have := rwrite_l0 v ls h3 ls.length 0 [v, (ls.length : Int)] k (by omega) (by omega) (by omega) (by simp)
    rw [List.drop_zero] at this
    rw [show ((0 : Nat) : Int) = 0 from rfl] at this
    rw [this]
    show (word_Put.f (numsT v ls)).bind _ = _
    rw [put_nums h, Option.bind_some]
  · rw [write_not h k hk, tollbarref22_WriteTopo.f, gmay_is v ls k hk, Option.bind_some, if_neg h]

/-! ### What is read -/
theorem wlist_eq : ∀ (k : Nat) (s : ByteArray) (acc : List Int) (p : Int), word_List.l0 k s acc p = listF k s acc p
  | 0, _, _, _ => rfl
  | k + 1, s, acc, p => by
    unfold word_List.l0 listF
    simp only [wlist_eq k]
theorem rlist_eq : ∀ (k : Nat) (s : ByteArray) (acc : List Int) (p : Int), tollbarref1_List.l0 k s acc p = listF k s acc p
  | 0, _, _, _ => rfl
  | k + 1, s, acc, p => by
    unfold tollbarref1_List.l0 listF
    have e : tollbarref1_Get.f s p = word_Get.f s p := rfl
    simp only [rlist_eq k, e]
theorem links_flat : ∀ ls : List Lk, linksF (flat ls) = ls
  | [] => rfl
  | l :: r => by
    have := links_flat r
    show (⟨l.f0, l.f1, l.f2⟩ : Lk) :: linksF (flat r) = _
    rw [this]
theorem flat_links : ∀ (m : Nat) (ys : List Int), ys.length = 3 * m → flat (linksF ys) = ys ∧ (linksF ys).length = m
  | 0, ys, h => by
    have : ys = [] := List.length_eq_zero_iff.1 (by omega)
    subst this
    exact ⟨rfl, rfl⟩
  | m + 1, a :: b :: c :: r, h => by
    have ih := flat_links m r (by simp at h; omega)
    refine ⟨?_, ?_⟩
    · show a :: b :: c :: flat (linksF r) = _
      rw [ih.1]
    · show (linksF r).length + 1 = _
      rw [ih.2]
  | m + 1, [], h => by simp at h
  | m + 1, [a], h => by simp at h; omega
  | m + 1, [a, b], h => by simp at h; omega
theorem form_nums {xs : List Int} (h : formF xs = true) : numsT (rd xs 0) (linksF (xs.drop 2)) = xs ∧ ((linksF (xs.drop 2)).length : Int) = rd xs 1 := by
  unfold formF at h
  simp only [Bool.and_eq_true, decide_eq_true_eq] at h
  obtain ⟨h1, h2, h3⟩ := h
  match xs, h1 with
  | a :: b :: r, _ =>
    have e0 : rd (a :: b :: r) 0 = a := rfl
    have e1 : rd (a :: b :: r) 1 = b := rfl
    rw [e1] at h3
    rw [e0, e1]
    obtain ⟨g1, g2⟩ := flat_links (r.length / 3) r (by simp at h2; omega)
    show a :: ((linksF r).length : Int) :: flat (linksF r) = _ ∧ ((linksF r).length : Int) = b
    rw [g1, g2]
    have : ((r.length / 3 : Nat) : Int) = b := by
      rw [← h3]
      simp
    rw [this]
    exact ⟨rfl, rfl⟩
theorem nums_form (v : Int) (ls : List Lk) : formF (numsT v ls) = true ∧ rd (numsT v ls) 0 = v ∧ linksF ((numsT v ls).drop 2) = ls := by
  have hf := flat_len ls
  refine ⟨?_, rfl, links_flat ls⟩
  have e1 : rd (numsT v ls) 1 = (ls.length : Int) := rfl
  have el : (numsT v ls).length = 2 + 3 * ls.length := by
    simp only [numsT, List.length_cons, hf]
    omega
  unfold formF
  rw [e1, el]
  simp
theorem enc_inj {xs ys : List Int} (hx : rates xs) (hy : rates ys) (h : encs xs = encs ys) (hb : (encs xs).length ≤ 1000000000) : xs = ys := by
  have h1 := list_enc ⟨(encs xs).toArray⟩ (by show (encs xs).toArray.size ≤ _; simp; omega) xs [] [] (xs.length + ys.length + 1) (by simp) hx (by simp) (by omega)
  have h2 := list_enc ⟨(encs xs).toArray⟩ (by show (encs xs).toArray.size ≤ _; simp; omega) ys [] [] (xs.length + ys.length + 1) (by simpa using h) hy (by simp) (by omega)
  rw [h1] at h2
  simpa using h2

/-- What is read of a row of numbers. -/
def resT (xs : List Int) (e : Int) : Int × List Lk × Int := if e = 0 ∧ (formF xs = true ∧ mayG (rd xs 0) (linksF (xs.drop 2)) = true) then (rd xs 0, linksF (xs.drop 2), 0) else (0, [], 2400)
theorem read_res (s : ByteArray) (k : Nat) (hk : 40 ≤ k) (xs : List Int) (e : Int) (hl : listF k s [] 0 = some (xs, e)) (hb : xs.length ≤ 1000000000000) : topo_Read.f k s = some (resT xs e) := by
  have hl' : word_List.f k s = some (xs, e) := by rw [word_List.f, wlist_eq, hl]
  rw [topo_Read.f, hl', Option.bind_some]
  dsimp only
  unfold resT
  by_cases he : e = 0
  case neg => rw [if_neg (fun h => he h.1), if_neg (fun h => he h.1)]
  by_cases hf : formF xs = true
  case neg => rw [if_neg (fun h => hf h.2), if_neg (fun h => hf h.2.1)]
  rw [if_pos ⟨he, hf⟩, if_pos hb, may_is _ _ k hk, Option.bind_some]
  by_cases hm : mayG (rd xs 0) (linksF (xs.drop 2)) = true
  · rw [if_pos hm, if_pos ⟨he, hf, hm⟩]
  · rw [if_neg hm, if_neg (fun h => hm h.2.2)]
theorem rread_l0 (xs : List Int) (hb : xs.length ≤ 1000) (v : Int) : ∀ (d i : Nat) (acc : List Lk) (k : Nat), xs.length = i + 3 * d → 40 + d < k → acc.length + d ≤ 1000000 →
    tollbarref22_ReadTopo.l0 k xs (i : Int) v acc = if mayG v (acc ++ linksF (xs.drop i)) = true then some (v, acc ++ linksF (xs.drop i), 0) else some (0, [], 2400) := by
  intro d
  induction d with
  | zero =>
    intro i acc k hd hk ha
    obtain ⟨k, rfl⟩ : ∃ m, k = m + 1 := ⟨k - 1, by omega⟩
    rw [tollbarref22_ReadTopo.l0, if_neg (by omega), gmay_is v acc k (by omega), Option.bind_some, List.drop_of_length_le (by omega)]
    simp [linksF]
  | succ d ih =>
    intro i acc k hd hk ha
    obtain ⟨k, rfl⟩ : ∃ m, k = m + 1 := ⟨k - 1, by omega⟩
    have w1 : wrap64 ((i : Int) + 1) = ((i + 1 : Nat) : Int) := wrap_next i (by omega)
    have w2 : wrap64 ((i : Int) + 2) = ((i + 2 : Nat) : Int) := by unfold wrap64; omega
    have w3 : wrap64 ((i : Int) + 3) = ((i + 3 : Nat) : Int) := by unfold wrap64; omega
    rw [tollbarref22_ReadTopo.l0, w1, w2, w3, if_pos (by omega), if_pos (by omega), if_pos (by omega), if_pos (by omega), if_pos (by omega), if_pos (by omega), if_pos (by omega), rd_at xs i (by omega), rd_at xs (i + 1) (by omega), rd_at xs (i + 2) (by omega),
      ih (i + 3) _ k (by omega) (by omega) (by simp; omega)]
    have e : xs.drop i = xs[i] :: xs[i + 1] :: xs[i + 2] :: xs.drop (i + 3) := by
      rw [List.drop_eq_getElem_cons (show i < xs.length by omega), List.drop_eq_getElem_cons (show i + 1 < xs.length by omega), List.drop_eq_getElem_cons (show i + 2 < xs.length by omega)]
    rw [e, linksF, List.append_assoc]
    rfl
theorem rread_res (s : ByteArray) (k : Nat) (hk : 100 ≤ k) (xs : List Int) (e : Int) (hl : listF k s [] 0 = some (xs, e)) (hr : e = 0 → rates xs) (hb : xs.length ≤ 1000000000000) : tollbarref22_ReadTopo.f k s = some (resT xs e) := by
  have hl' : tollbarref1_List.f k s = some (xs, e) := by rw [tollbarref1_List.f, rlist_eq, hl]
  obtain ⟨k, rfl⟩ : ∃ m, k = m + 1 := ⟨k - 1, by omega⟩
  have hj : tollbarref22_ReadTopo.j0 (k + 1) xs true = some (0, [], 2400) := by rw [tollbarref22_ReadTopo.j0, if_pos rfl]
  rw [tollbarref22_ReadTopo.f, hl', Option.bind_some]
  dsimp only
  unfold resT
  by_cases he : e = 0
  case neg => rw [if_neg he, hj, if_neg (fun h => he h.1)]
  have hrt := hr he
  rw [if_pos he]
  by_cases h2 : (xs.length : Int) < 2
  · rw [if_pos h2, hj, if_neg (fun h => by
      have := h.2.1
      unfold formF at this
      simp only [Bool.and_eq_true, decide_eq_true_eq] at this
      omega)]
  have h1 : 1 < xs.length := by omega
  rw [if_neg h2, if_pos (by omega)]
  have hx1 := rd_at xs 1 h1
  have hx1' : rd xs 1 = xs[1] := hx1
  have hm1 := hrt xs[1] (List.getElem_mem h1)
  by_cases h16 : rd xs 1 > 16
  · rw [if_pos h16, hj, if_neg (fun h => by
      have hf := (form_nums h.2.1).2
      have := (may_parts h.2.2).2.2.1
      omega)]
  rw [if_neg h16]
  have hw : wrap64 (2 + wrap64 (3 * rd xs 1)) = 2 + 3 * rd xs 1 := by unfold wrap64; omega
  rw [hw, tollbarref22_ReadTopo.j0]
  by_cases h3 : (xs.length : Int) = 2 + 3 * rd xs 1
  case neg =>
    rw [if_pos (by simpa using h3), if_neg (fun h => by
      have hf := h.2.1
      unfold formF at hf
      simp only [Bool.and_eq_true, decide_eq_true_eq] at hf
      omega)]
  rw [if_neg (by simpa using h3), if_pos (by omega)]
  have hf : formF xs = true := by
    unfold formF
    simp only [Bool.and_eq_true, decide_eq_true_eq]
    omega
  have hq := rread_l0 xs (by omega) (rd xs 0) ((xs.length - 2) / 3) 2 [] k (by omega) (by omega) (by simp; omega)
  rw [List.nil_append] at hq
  rw [show ((2 : Nat) : Int) = 2 from rfl] at hq
  rw [hq]
  by_cases hm : mayG (rd xs 0) (linksF (xs.drop 2)) = true
  · rw [if_pos hm, if_pos ⟨he, hf, hm⟩]
  · rw [if_neg hm, if_neg (fun h => hm h.2.2)]

/-- In one sentence: bytes are read as a graph just if they are a graph's bytes. -/
theorem read_is (s : ByteArray) (hs : s.size ≤ 1048576) (k : Nat) (hk : s.size + 100 ≤ k) : ∃ v ls e, topo_Read.f k s = some (v, ls, e) ∧ tollbarref22_ReadTopo.f k s = some (v, ls, e) ∧
    ((e = 0 ∧ mayG v ls = true ∧ s = bytesT v ls) ∨ (e = 2400 ∧ ls.length ≤ 0 ∧ ∀ v' ls', mayG v' ls' = true → s ≠ bytesT v' ls')) := by
  obtain ⟨xs, e, hl, hor⟩ := list_whole s (by omega) k (by omega)
  have hlen : xs.length ≤ 1048576 := by
    rcases hor with ⟨_, _, h⟩ | ⟨_, h, _⟩
    · have := encs_ge xs
      rw [← h, data_length] at this
      omega
    · rw [h]; simp
  have hp := read_res s k (by omega) xs e hl (by omega)
  have hr := rread_res s k (by omega) xs e hl (fun he => by
    rcases hor with ⟨_, h, _⟩ | ⟨h, _⟩
    · exact h
    · exact absurd he h) (by omega)
  refine ⟨(resT xs e).1, (resT xs e).2.1, (resT xs e).2.2, hp, hr, ?_⟩
  unfold resT
  by_cases hc : e = 0 ∧ (formF xs = true ∧ mayG (rd xs 0) (linksF (xs.drop 2)) = true)
  · rw [if_pos hc]
    refine .inl ⟨rfl, hc.2.2, ?_⟩
    rcases hor with ⟨_, _, h⟩ | ⟨h, _⟩
    · apply ByteArray.ext
      apply Array.toList_inj.1
      show s.data.toList = (encs (numsT _ _)).toArray.toList
      rw [(form_nums hc.2.1).1, h]
    · exact absurd hc.1 h
  · rw [if_neg hc]
    refine .inr ⟨rfl, Nat.le_refl _, fun v' ls' hm hse => hc ?_⟩
    have hsd : s.data.toList = encs (numsT v' ls') := by rw [hse]; rfl
    rcases hor with ⟨he, hrx, h⟩ | ⟨_, _, h⟩
    · have hxs : xs = numsT v' ls' := enc_inj hrx (may_rates hm) (h.symm.trans hsd) (by rw [← h, data_length]; omega)
      obtain ⟨f1, f2, f3⟩ := nums_form v' ls'
      rw [hxs]
      exact ⟨he, f1, by rw [f2, f3]; exact hm⟩
    · exact absurd hsd (h _ (may_rates hm))
theorem bytes_size (v : Int) (ls : List Lk) (h : mayG v ls = true) : (bytesT v ls).size ≤ 1000 ∧ 1 ≤ (bytesT v ls).size := by
  have h1 := encs_le (numsT v ls)
  have h2 := encs_ge (numsT v ls)
  have h3 := flat_len ls
  have h4 := (may_parts h).2.2.1
  have e : (bytesT v ls).size = (encs (numsT v ls)).length := by
    show (encs (numsT v ls)).toArray.size = _
    simp
  simp only [numsT, List.length_cons] at h1 h2
  rw [e]
  simp only [numsT]
  omega
theorem bytes_inj {v v' : Int} {ls ls' : List Lk} (h : mayG v ls = true) (h' : mayG v' ls' = true) (e : bytesT v ls = bytesT v' ls') : v = v' ∧ ls = ls' := by
  have e1 : encs (numsT v ls) = encs (numsT v' ls') := by
    have := congrArg (fun b : ByteArray => b.data.toList) e
    exact this
  have hs := (bytes_size v ls h).1
  have hb : (encs (numsT v ls)).length ≤ 1000000000 := by
    have e2 : (bytesT v ls).size = (encs (numsT v ls)).length := by
      show (encs (numsT v ls)).toArray.size = _
      simp
    omega
  have e3 := enc_inj (may_rates h) (may_rates h') e1 hb
  obtain ⟨_, a1, a2⟩ := nums_form v ls
  obtain ⟨_, b1, b2⟩ := nums_form v' ls'
  rw [e3] at a1 a2
  exact ⟨a1.symm.trans b1, a2.symm.trans b2⟩
theorem read_bytes {v : Int} {ls : List Lk} (h : mayG v ls = true) (k : Nat) (hk : 1200 ≤ k) : topo_Read.f k (bytesT v ls) = some (v, ls, 0) := by
  have hs := bytes_size v ls h
  obtain ⟨v', ls', e, hr, _, hor⟩ := read_is (bytesT v ls) (by omega) k (by omega)
  rcases hor with ⟨rfl, hm, hb⟩ | ⟨_, _, hn⟩
  · obtain ⟨rfl, rfl⟩ := bytes_inj h hm hb
    exact hr
  · exact absurd rfl (hn v ls h)
end Go.Proofs.Yteikgpdjfhdneaa.TopoL
