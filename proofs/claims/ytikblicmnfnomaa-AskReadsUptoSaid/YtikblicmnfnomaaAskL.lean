/- Plain laws of requests as bytes: what is written, what is read, in terms of the row of numbers. -/
import Derived.Test.YtikblicmnfnomaaAskR
set_option linter.unusedVariables false
namespace Go.Proofs.Ytikblicmnfnomaa.AskL
open Go.RowKit Go.Proofs.Ytikblicmnfnomaa.Man Go.Proofs.Ytikblicmnfnomaa.QL Go.Proofs.Ytikblicmnfnomaa.WordM Go.Proofs.Ytikblicmnfnomaa.WordL Go.Proofs.YtikblicmnfnomaaW.PrintWords

def okV (x : Int) : Prop := 0 ≤ x ∧ x ≤ 4611686018427387904
theorem eqB7_iff (x0 x1 x2 x3 x4 x5 x6 y0 y1 y2 y3 y4 y5 y6 : Int) : eqB7 x0 x1 x2 x3 x4 x5 x6 y0 y1 y2 y3 y4 y5 y6 = true ↔ x0 = y0 ∧ x1 = y1 ∧ x2 = y2 ∧ x3 = y3 ∧ x4 = y4 ∧ x5 = y5 ∧ x6 = y6 := by
  simp only [eqB7, Bool.and_eq_true, beq_iff_eq, and_assoc]
theorem offs_cases (k : Int) : offsK k = [] ∨ (k = 1 ∧ offsK k = [4, 5, 6, 0, 1]) ∨ (k = 2 ∧ offsK k = [3, 6, 0, 1]) ∨ (k = 3 ∧ offsK k = [3]) ∨ (k = 4 ∧ offsK k = [3]) ∨ (k = 5 ∧ offsK k = [3, 0]) ∨ (k = 6 ∧ offsK k = [0]) := by
  unfold offsK
  by_cases h1 : k = 1
  · subst h1; simp
  by_cases h2 : k = 2
  · subst h2; simp
  by_cases h3 : k = 3
  · subst h3; simp
  by_cases h4 : k = 4
  · subst h4; simp
  by_cases h5 : k = 5
  · subst h5; simp
  by_cases h6 : k = 6
  · subst h6; simp
  simp [h1, h2, h3, h4, h5, h6]
theorem offs_range {k : Int} (h : offsK k ≠ []) : 1 ≤ k ∧ k ≤ 6 := by
  rcases offs_cases k with e | ⟨e, _⟩ | ⟨e, _⟩ | ⟨e, _⟩ | ⟨e, _⟩ | ⟨e, _⟩ | ⟨e, _⟩
  · exact absurd e h
  all_goals omega
theorem offs_len (k : Int) : (offsK k).length ≤ 5 := by
  rcases offs_cases k with e | ⟨_, e⟩ | ⟨_, e⟩ | ⟨_, e⟩ | ⟨_, e⟩ | ⟨_, e⟩ | ⟨_, e⟩ <;> rw [e] <;> decide
theorem offs_two (k : Int) : 2 ∉ offsK k := by
  rcases offs_cases k with e | ⟨_, e⟩ | ⟨_, e⟩ | ⟨_, e⟩ | ⟨_, e⟩ | ⟨_, e⟩ | ⟨_, e⟩ <;> rw [e] <;> decide
theorem offs_seven (k : Int) : ∀ o ∈ offsK k, o < 7 := by
  rcases offs_cases k with e | ⟨_, e⟩ | ⟨_, e⟩ | ⟨_, e⟩ | ⟨_, e⟩ | ⟨_, e⟩ | ⟨_, e⟩ <;> rw [e] <;> decide
theorem offs_nodup (k : Int) : (offsK k).Nodup := by
  rcases offs_cases k with e | ⟨_, e⟩ | ⟨_, e⟩ | ⟨_, e⟩ | ⟨_, e⟩ | ⟨_, e⟩ | ⟨_, e⟩ <;> rw [e] <;> decide

/-- A request that may be: a kind, its fields in their bounds, nothing else. -/
theorem mayQ_iff (a b k i s d r : Int) : mayQ a b k i s d r = true ↔ offsK k ≠ [] ∧ (∀ o ∈ offsK k, okV (qcells a b k i s d r o)) ∧ (∀ j, j < 7 → j ∉ offsK k → j ≠ 2 → qcells a b k i s d r j = 0) := by
  unfold mayQ
  by_cases hn : offsK k = []
  · rw [if_pos hn]
    simp [hn]
  rw [if_neg hn, mayK, onlyK, Bool.and_eq_true, eqB7_iff, List.all_eq_true]
  simp only [pcells, List.take_length, Bool.and_eq_true, decide_eq_true_eq]
  have e2 : qcells a b k i s d r 2 = k := rfl
  have n2 := offs_two k
  constructor
  · rintro ⟨h1, h2⟩
    refine ⟨hn, h1, fun j hj hm h22 => ?_⟩
    obtain ⟨g0, g1, g2, g3, g4, g5, g6⟩ := h2
    have key : ∀ j, j ∉ offsK k → j ≠ 2 → (if j ∈ offsK k then qcells a b k i s d r j else if j = 2 then k else 0) = qcells a b k i s d r j → qcells a b k i s d r j = 0 := by
      intro j h1 h2 h3
      rw [if_neg h1, if_neg h2] at h3
      exact h3.symm
    match j, hj with
    | 0, _ => exact key 0 hm h22 g0
    | 1, _ => exact key 1 hm h22 g1
    | 2, _ => exact absurd rfl h22
    | 3, _ => exact key 3 hm h22 g3
    | 4, _ => exact key 4 hm h22 g4
    | 5, _ => exact key 5 hm h22 g5
    | 6, _ => exact key 6 hm h22 g6
  · rintro ⟨_, h1, h2⟩
    have key : ∀ j, j < 7 → (if j ∈ offsK k then qcells a b k i s d r j else if j = 2 then k else 0) = qcells a b k i s d r j := by
      intro j hj
      by_cases hm : j ∈ offsK k
      · rw [if_pos hm]
      · rw [if_neg hm]
        by_cases h22 : j = 2
        · rw [if_pos h22, h22, e2]
        · rw [if_neg h22, h2 j hj hm h22]
    exact ⟨h1, key 0 (by decide), key 1 (by decide), key 2 (by decide), key 3 (by decide), key 4 (by decide), key 5 (by decide), key 6 (by decide)⟩

def bytesQ (a b k i s d r : Int) : ByteArray := ⟨(encs (numsQ k (qcells a b k i s d r))).toArray⟩
theorem nums_len (k : Int) (Q : Nat → Int) : (numsQ k Q).length ≤ 6 := by
  have := offs_len k
  simp only [numsQ, List.length_cons, List.length_map]
  omega
theorem may_rates {a b k i s d r : Int} (h : mayQ a b k i s d r = true) : rates (numsQ k (qcells a b k i s d r)) := by
  obtain ⟨h0, h1, _⟩ := (mayQ_iff a b k i s d r).1 h
  have hk := offs_range h0
  intro x hx
  rcases List.mem_cons.1 hx with rfl | hx
  · omega
  · obtain ⟨o, ho, rfl⟩ := List.mem_map.1 hx
    exact h1 o ho
theorem write_may {a b k i s d r : Int} (h : mayQ a b k i s d r = true) : ask_Write.f a b k i s d r = some (bytesQ a b k i s d r, 0) := by
  have hl := nums_len k (qcells a b k i s d r)
  rw [ask_Write.f, if_pos h, word_Put.f, put_is _ (by omega), if_pos (may_rates h)]
  rfl
theorem write_not {a b k i s d r : Int} (h : ¬ mayQ a b k i s d r = true) : ask_Write.f a b k i s d r = some (⟨#[]⟩, 2200) := by
  rw [ask_Write.f, if_neg h]

theorem fill_map (Q : Nat → Int) : ∀ (os : List Nat) (g : Nat → Int) (j : Nat), fillQ os (os.map Q) g j = if j ∈ os then Q j else g j
  | [], g, j => by simp [fillQ]
  | o :: os, g, j => by
    rw [List.map_cons, fillQ, fill_map Q os]
    by_cases h : j ∈ os
    · simp [h]
    · by_cases e : j = o
      · subst e
        simp
      · simp [h, e]
theorem fill_not (g : Nat → Int) : ∀ (os : List Nat) (ys : List Int) (g : Nat → Int) (j : Nat), j ∉ os → fillQ os ys g j = g j
  | [], ys, g, j, _ => by cases ys <;> rfl
  | o :: os, [], g, j, _ => rfl
  | o :: os, y :: ys, g, j, h => by
    rw [fillQ, fill_not g os ys _ j (fun hm => h (List.mem_cons_of_mem _ hm))]
    exact if_neg (fun e => h (by rw [e]; exact List.mem_cons_self))
theorem map_fill : ∀ (os : List Nat) (ys : List Int) (g : Nat → Int), os.Nodup → os.length = ys.length → os.map (fillQ os ys g) = ys
  | [], [], g, _, _ => rfl
  | [], y :: ys, g, _, h => by simp at h
  | o :: os, [], g, _, h => by simp at h
  | o :: os, y :: ys, g, hn, h => by
    have hn' := List.nodup_cons.1 hn
    rw [List.map_cons, fillQ, map_fill os ys _ hn'.2 (by simpa using h), fill_not g os ys _ o hn'.1]
    simp

theorem list_l0 : ∀ (k : Nat) (s : ByteArray) (acc : List Int) (p : Int), word_List.l0 k s acc p = listF k s acc p
  | 0, _, _, _ => rfl
  | k + 1, s, acc, p => by
    unfold word_List.l0 listF
    congr 1
    congr 1
    funext r
    rw [list_l0 k]
theorem list_f (k : Nat) (s : ByteArray) : word_List.f k s = listF k s [] 0 := list_l0 k s [] 0

/-- What is written is read. -/
theorem read_enc {a b k i s d r : Int} (h : mayQ a b k i s d r = true) : ask_Read.f (bytesQ a b k i s d r) = some (a, b, k, i, s, d, r, 0) := by
  have hl := nums_len k (qcells a b k i s d r)
  have hle := encs_le (numsQ k (qcells a b k i s d r))
  have hge := encs_ge (numsQ k (qcells a b k i s d r))
  have hsz : (bytesQ a b k i s d r).size = (encs (numsQ k (qcells a b k i s d r))).length := by
    show (encs (numsQ k (qcells a b k i s d r))).toArray.size = _
    simp
  have hL := list_enc (bytesQ a b k i s d r) (by omega) (numsQ k (qcells a b k i s d r)) [] [] ((bytesQ a b k i s d r).size + 1) (by simp [bytesQ]) (may_rates h) (by simp) (by omega)
  obtain ⟨h0, h1, h2⟩ := (mayQ_iff a b k i s d r).1 h
  rw [ask_Read.f, if_pos (by omega), list_f]
  simp only [List.length_nil, List.nil_append] at hL
  rw [show ((0 : Nat) : Int) = 0 from rfl] at hL
  rw [hL, Option.map_some]
  congr 1
  have hr0 : rd (numsQ k (qcells a b k i s d r)) 0 = k := rfl
  rw [readQ, if_neg (by simp [numsQ]), hr0, if_neg (by simp [numsQ, h0])]
  have hd : (numsQ k (qcells a b k i s d r)).drop 1 = (offsK k).map (qcells a b k i s d r) := rfl
  rw [hd]
  have key : ∀ j, j < 7 → fillQ (offsK k) ((offsK k).map (qcells a b k i s d r)) (zeroQ k) j = qcells a b k i s d r j := by
    intro j hj
    rw [fill_map]
    by_cases hm : j ∈ offsK k
    · rw [if_pos hm]
    · rw [if_neg hm, zeroQ]
      by_cases h22 : j = 2
      · rw [if_pos h22, h22]
        rfl
      · rw [if_neg h22, h2 j hj hm h22]
  rw [packQ, key 0 (by decide), key 1 (by decide), key 2 (by decide), key 3 (by decide), key 4 (by decide), key 5 (by decide), key 6 (by decide)]
  rfl

/-- What is read: nothing, or a request that may be, whose bytes they are. -/
theorem read_ok (t : ByteArray) (hs : t.size ≤ 1099511627776) : ∃ a b k i s d r e, ask_Read.f t = some (a, b, k, i, s, d, r, e) ∧ ((e = 0 ∧ mayQ a b k i s d r = true ∧ t = bytesQ a b k i s d r) ∨ e = 2200) := by
  obtain ⟨xs, e, hl, hor⟩ := list_whole t hs (t.size + 1) (by omega)
  rw [ask_Read.f, if_pos hs, list_f, hl, Option.map_some, readQ]
  by_cases h1 : e ≠ 0 ∨ xs = []
  · rw [if_pos h1]
    exact ⟨_, _, _, _, _, _, _, _, rfl, Or.inr rfl⟩
  rw [if_neg h1]
  obtain ⟨k, ys, rfl⟩ : ∃ k ys, xs = k :: ys := by
    cases xs with
    | nil => exact absurd (Or.inr rfl) h1
    | cons k ys => exact ⟨k, ys, rfl⟩
  have hr0 : rd (k :: ys) 0 = k := rfl
  rw [hr0]
  by_cases h2 : offsK k = [] ∨ (offsK k).length + 1 ≠ (k :: ys).length
  · rw [if_pos h2]
    exact ⟨_, _, _, _, _, _, _, _, rfl, Or.inr rfl⟩
  rw [if_neg h2]
  have he : e = 0 := Classical.byContradiction fun h => h1 (Or.inl h)
  have hn : offsK k ≠ [] := fun h => h2 (Or.inl h)
  have hlen : (offsK k).length = ys.length := by
    have : ¬ (offsK k).length + 1 ≠ (k :: ys).length := fun h => h2 (Or.inr h)
    simp only [List.length_cons] at this
    omega
  rcases hor with ⟨_, hr, ht⟩ | ⟨h, _⟩
  case inr => exact absurd he h
  obtain ⟨g, hg⟩ : ∃ g, fillQ (offsK k) ((k :: ys).drop 1) (zeroQ k) = g := ⟨_, rfl⟩
  rw [hg]
  rw [List.drop_succ_cons, List.drop_zero] at hg
  have g2 : g 2 = k := by
    rw [← hg, fill_not (zeroQ k) _ _ _ _ (offs_two k)]
    rfl
  have hmap : (offsK k).map g = ys := by
    rw [← hg]
    exact map_fill _ _ _ (offs_nodup k) hlen
  have hq : ∀ j, j < 7 → qcells (g 0) (g 1) k (g 3) (g 4) (g 5) (g 6) j = g j := by
    intro j hj
    match j, hj with
    | 0, _ | 1, _ | 3, _ | 4, _ | 5, _ | 6, _ => rfl
    | 2, _ => exact g2.symm
  have hmq : (offsK k).map (qcells (g 0) (g 1) k (g 3) (g 4) (g 5) (g 6)) = ys := by
    rw [← hmap]
    exact List.map_congr_left fun o ho => hq o (offs_seven k o ho)
  refine ⟨g 0, g 1, k, g 3, g 4, g 5, g 6, 0, by rw [packQ, g2], Or.inl ⟨rfl, ?_, ?_⟩⟩
  · refine (mayQ_iff _ _ _ _ _ _ _).2 ⟨hn, fun o ho => ?_, fun j hj hm h22 => ?_⟩
    · have : qcells (g 0) (g 1) k (g 3) (g 4) (g 5) (g 6) o ∈ ys := by
        rw [← hmq]
        exact List.mem_map.2 ⟨o, ho, rfl⟩
      exact hr _ (List.mem_cons_of_mem _ this)
    · rw [hq j hj, ← hg, fill_not (zeroQ k) _ _ _ _ hm]
      exact if_neg h22
  · rw [bytesQ, numsQ, hmq]
    apply ByteArray.ext
    apply Array.toList_inj.1
    rw [ht]

/-- One code is no beginning of another. -/
theorem enc_cancel {x y : Nat} {u v : List UInt8} (hx : x ≤ 4611686018427387904) (hy : y ≤ 4611686018427387904) (h : encW x ++ u = encW y ++ v) : x = y ∧ u = v := by
  have h1 := get_enc ⟨(encW x ++ u).toArray⟩ [] u x (by simp) hx
  have h2 := get_enc ⟨(encW x ++ u).toArray⟩ [] v y (by simp [h]) hy
  rw [h1] at h2
  injection h2 with e1 e2
  have e : x = y := by omega
  subst e
  exact ⟨rfl, List.append_cancel_left h⟩
theorem encs_cancel : ∀ (xs ys : List Int) (u v : List UInt8), rates xs → rates ys → xs.length = ys.length → encs xs ++ u = encs ys ++ v → xs = ys ∧ u = v
  | [], [], u, v, _, _, _, h => ⟨rfl, by simpa [WordL.encs] using h⟩
  | [], y :: ys, u, v, _, _, hl, _ => by simp at hl
  | x :: xs, [], u, v, _, _, hl, _ => by simp at hl
  | x :: xs, y :: ys, u, v, hx, hy, hl, h => by
    rw [encs_cons, encs_cons, List.append_assoc, List.append_assoc] at h
    have bx := hx x List.mem_cons_self
    have by_ := hy y List.mem_cons_self
    obtain ⟨e1, e2⟩ := enc_cancel (by omega) (by omega) h
    obtain ⟨e3, e4⟩ := encs_cancel xs ys u v (fun z hz => hx z (List.mem_cons_of_mem _ hz)) (fun z hz => hy z (List.mem_cons_of_mem _ hz)) (by simpa using hl) e2
    exact ⟨by rw [e3, show x = y by omega], e4⟩
/-- A request's bytes are no beginning of another's. -/
theorem bytes_apart {a b k i s d r a' b' k' i' s' d' r' : Int} (h : mayQ a b k i s d r = true) (h' : mayQ a' b' k' i' s' d' r' = true) (u : List UInt8)
    (e : (bytesQ a b k i s d r).data.toList ++ u = (bytesQ a' b' k' i' s' d' r').data.toList) : u = [] := by
  have r1 := may_rates h
  have r2 := may_rates h'
  have e' : encs (numsQ k (qcells a b k i s d r)) ++ u = encs (numsQ k' (qcells a' b' k' i' s' d' r')) ++ [] := by simpa [bytesQ] using e
  have hk : k = k' := by
    rw [numsQ, numsQ, encs_cons, encs_cons, List.append_assoc, List.append_assoc] at e'
    have b1 := r1 k List.mem_cons_self
    have b2 := r2 k' List.mem_cons_self
    have := (enc_cancel (by omega) (by omega) e').1
    omega
  subst hk
  exact (encs_cancel _ _ _ _ r1 r2 (by simp [numsQ]) e').2
theorem bytes_inj {a b k i s d r a' b' k' i' s' d' r' : Int} (h : mayQ a b k i s d r = true) (h' : mayQ a' b' k' i' s' d' r' = true) (e : bytesQ a b k i s d r = bytesQ a' b' k' i' s' d' r') :
    a = a' ∧ b = b' ∧ k = k' ∧ i = i' ∧ s = s' ∧ d = d' ∧ r = r' := by
  have h1 := read_enc h
  have h2 := read_enc h'
  rw [e, h2] at h1
  simp only [Option.some.injEq, Prod.mk.injEq] at h1
  obtain ⟨h1, h2, h3, h4, h5, h6, h7, _⟩ := h1
  exact ⟨h1.symm, h2.symm, h3.symm, h4.symm, h5.symm, h6.symm, h7.symm⟩
end Go.Proofs.Ytikblicmnfnomaa.AskL
