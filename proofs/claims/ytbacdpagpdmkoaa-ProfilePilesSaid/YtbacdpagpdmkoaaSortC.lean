/- slices.Sort and slices.Compact of numbers, at a row of the call's own. -/
import Derived.Test.YtbacdpagpdmkoaaShelf
import Derived.Test.YtbacdpagpdmkoaaWMore
import Derived.Shelf.Sort.Plain
import Derived.Lib.Hide
set_option linter.unusedVariables false
namespace Go.Proofs.Ytbacdpagpdmkoaa.Man
open Go.RowKit Go.Sort Go.Proofs.YtbacdpagpdmkoaaW.PrintWords Go.Proofs.YtbacdpagpdmkoaaW.PrintLast Go.Proofs.YtbacdpagpdmkoaaW.PrintMore

theorem int_row {k : IntKind} {e base : Nat} {w : World} {ok : Nat → Prop} {v : Value} {xs : List Int} (h : Kd.R (Kd.int k) e w base ok v xs) : (∀ b, v.ownBlock = some b → ok b) ∧ w.ownsRow base e 1 v xs.length (nums k xs) := by
  obtain ⟨h0, inner, ho, hl, hr⟩ := h
  refine ⟨h0, ?_⟩
  have : inner = nums k xs := by
    change inner.length = xs.length * 1 at hl
    apply List.ext_getElem?
    intro j
    by_cases hj : j < xs.length
    · have hx : xs[j]? = some xs[j] := List.getElem?_eq_getElem hj
      have h1 : (inner.drop (j * 1)).take 1 = [.int k xs[j]] := hr j _ hx
      have h2 : inner[j]? = some (.int k xs[j]) := by
        have : ((inner.drop (j * 1)).take 1)[0]? = some (.int k xs[j]) := by rw [h1]; rfl
        simpa using this
      rw [h2]
      simp [nums, hx]
    · rw [List.getElem?_eq_none (by omega), List.getElem?_eq_none (by rw [nums_length]; omega)]
  rw [← this]
  exact ho
theorem row_int {k : IntKind} {e base : Nat} {w : World} {ok : Nat → Prop} {v : Value} {xs : List Int} (h0 : ∀ b, v.ownBlock = some b → ok b) (h : w.ownsRow base e 1 v xs.length (nums k xs)) : Kd.R (Kd.int k) e w base ok v xs := by
  refine ⟨h0, nums k xs, h, by rw [nums_length]; exact (Nat.mul_one _).symm, fun j p hj => ?_⟩
  show ((nums k xs).drop (j * 1)).take 1 = [.int k p]
  have hl : j < xs.length := (List.getElem?_eq_some_iff.1 hj).1
  have hp : xs[j] = p := by simpa [List.getElem?_eq_getElem hl] using hj
  apply List.ext_getElem?
  intro i
  cases i with
  | zero => simp [nums, hj]
  | succ i => simp [List.getElem?_take]

theorem row_holds {k : IntKind} {base g n cap : Nat} {e : TypeId} {w : World} {xs : List Int} (h : w.ownsRow base e 1 (.slice (some ⟨g, 0, none⟩) n cap) n (nums k xs)) : Holds (Value.int k) w g 0 xs.toArray := by
  have hl : xs.length = n := by have := h.1; simp [nums] at this; exact this
  intro j hj
  have hj' : j < xs.length := by simpa using hj
  obtain ⟨h1, h2⟩ := own_at h (j : Int) (by omega) (by omega)
  rw [Int.toNat_natCast] at h1 h2
  rw [Nat.zero_add]
  refine ⟨?_, h2⟩
  rw [h1]
  congr 2
  rw [getElem!_pos xs.toArray j hj]
  simp [Go.Proofs.YtbacdpagpdmkoaaW.PrintWords.rd, List.getD_eq_getElem?_getD, hj']
/-- The row's first cells written anew. -/
theorem row_put {k : IntKind} {base g n cap q : Nat} {e : TypeId} {w : World} {xs ds : List Int} {os : Array Obj} (h : w.ownsRow base e 1 (.slice (some ⟨g, 0, none⟩) n cap) n (nums k xs)) (hd : ds.length = n) (m : Nat) (hm : m ≤ n) :
    (grow (putRow (Value.int k) (Sort.ahead w q) g 0 ds.toArray) os).ownsRow base e 1 (.slice (some ⟨g, 0, none⟩) m cap) m (nums k (ds.take m)) ∧ w.grownBy (grow (putRow (Value.int k) (Sort.ahead w q) g 0 ds.toArray) os) (some g) := by
  have hl : xs.length = n := by have := h.1; simp [nums] at this; exact this
  rcases h.2 with ⟨h', _⟩ | ⟨g', cap', cur, h', hb, hh, h1, h2, h3, h4⟩
  · cases h'
  injection h' with e1 _ e3
  injection e1 with e1
  injection e1 with e1
  subst e1 e3
  have hg : g < w.heap.size := (Array.getElem?_eq_some_iff.1 hh).1
  have hsz : (putRow (Value.int k) (Sort.ahead w q) g 0 ds.toArray).heap.size = w.heap.size := by simp [putRow, mapBlock, Sort.ahead]
  have hnew : (grow (putRow (Value.int k) (Sort.ahead w q) g 0 ds.toArray) os).heap[g]? = some (.cells (putCells (Value.int k) 0 ds.toArray cur) e (0, 0)) := by
    rw [heap_grow_old _ _ (by rw [hsz]; exact hg)]
    show (w.heap.modify g (onCells (putCells (Value.int k) 0 ds.toArray)))[g]? = _
    rw [Array.getElem?_modify, if_pos rfl, hh]
    rfl
  refine ⟨⟨by rw [nums_length, List.length_take]; omega, .inr ⟨g, cap, _, rfl, hb, hnew, by omega, h2, ?_, ?_⟩⟩, ⟨rfl, rfl, rfl, ?_, fun j hj hne => ?_⟩⟩
  · rw [putCells, Array.size_mapIdx]; exact h3
  · apply List.ext_getElem?
    intro j
    rw [List.getElem?_take]
    by_cases hj : j < m
    · have hjc : j < cur.size := by omega
      have hjd : j < ds.length := by omega
      rw [if_pos (by omega), Array.getElem?_toList, putCells, Array.getElem?_mapIdx, Array.getElem?_eq_getElem hjc]
      simp only [Option.map_some, nums, List.getElem?_map, List.getElem?_take, if_pos hj, List.getElem?_eq_getElem hjd]
      rw [if_pos ⟨Nat.zero_le _, by simpa using hjd⟩, Nat.sub_zero, getElem!_pos ds.toArray j (by simpa using hjd)]
      simp
    · rw [if_neg (by omega), List.getElem?_eq_none (by rw [nums_length, List.length_take]; omega)]
  · show w.heap.size ≤ ((putRow (Value.int k) (Sort.ahead w q) g 0 ds.toArray).heap ++ os).size
    rw [Array.size_append, hsz]
    omega
  · rw [heap_grow_old _ _ (by rw [hsz]; exact hj)]
    show (w.heap.modify g (onCells (putCells (Value.int k) 0 ds.toArray)))[j]? = _
    rw [Array.getElem?_modify, if_neg (fun e => hne (by rw [e]))]

/-- In rising order. -/
def sortF (xs : List Int) : List Int := xs.mergeSort fun x y => decide (x ≤ y)
theorem sortF_length (xs : List Int) : (sortF xs).length = xs.length := List.length_mergeSort xs

theorem sort_row (e0 base : Nat) (ok : Nat → Prop) (v : Value) (xs : List Int) (w : World) (h : Kd.R (Kd.int .i64) e0 w base ok v xs) (hl : xs.length < 4611686018427387904) :
    Calls Try.prog 51 #[v] w fun e w' => e = .returned (.tuple #[]) ∧ Kd.R (Kd.int .i64) e0 w' base ok v (sortF xs) ∧ w.grownBy w' v.ownBlock := by
  obtain ⟨h0, ho⟩ := int_row h
  rcases Nat.eq_zero_or_pos xs.length with hz | hp
  · obtain rfl : xs = [] := List.eq_nil_of_length_eq_zero hz
    obtain ⟨A, c, rfl⟩ := own_slice ho
    refine (Try.slices_Sort_int_none A c w).mono ?_
    rintro e w' ⟨rfl, rfl⟩
    exact ⟨rfl, by simpa [sortF] using h, World.grownBy.refl w' _⟩
  obtain ⟨g, cap, rfl, hb, hg⟩ := ho.form hp
  refine (Try.slices_Sort_int g 0 cap xs w (row_holds ho) hg hl).mono ?_
  rintro e w' ⟨rfl, q, os, rfl⟩
  obtain ⟨h1, h2⟩ := row_put (q := q) (os := os) (ds := sortF xs) ho (sortF_length xs) xs.length (Nat.le_refl _)
  rw [List.take_of_length_le (by rw [sortF_length]; exact Nat.le_refl _)] at h1
  refine ⟨rfl, row_int h0 ?_, h2⟩
  rw [sortF_length]
  exact h1

/-- Equal ones behind one another are left out. -/
def uqF (p : Int) : List Int → List Int
  | [] => []
  | x :: r => if x = p then uqF p r else x :: uqF x r
def uniqF : List Int → List Int
  | [] => []
  | x :: r => x :: uqF x r
theorem uqF_snoc (y : Int) : ∀ (xs : List Int) (p : Int), uqF p (xs ++ [y]) = uqF p xs ++ if xs.getLastD p = y then [] else [y]
  | [], p => by
    show (if y = p then [] else [y]) = _
    by_cases h : y = p
    · simp [h, uqF]
    · have : ¬ p = y := fun e => h e.symm
      simp [h, this, uqF]
  | x :: r, p => by
    simp only [List.cons_append, uqF]
    by_cases h : x = p
    · rw [if_pos h, if_pos h, uqF_snoc y r p, List.getLastD_cons, h]
    · rw [if_neg h, if_neg h, uqF_snoc y r x, List.getLastD_cons, List.cons_append]
theorem compact_snoc (xs : List Int) (y : Int) : Lib.compact (xs ++ [y]) = Lib.compact xs ++ if xs.getLast? = some y then [] else [y] := by
  unfold Lib.compact Lib.compactUpTo
  rw [List.length_append, List.length_singleton, List.range_succ, List.filter_append, List.map_append]
  have hk : ∀ j, j < xs.length → (xs ++ [y]).toArray[j]! = xs.toArray[j]! := fun j hj => by
    rw [getElem!_pos _ j (by simp; omega), getElem!_pos _ j (by simpa using hj)]
    simp [List.getElem_append_left hj]
  congr 1
  · have hf : (List.range xs.length).filter (Lib.keeps (xs ++ [y]).toArray) = (List.range xs.length).filter (Lib.keeps xs.toArray) := by
      apply List.filter_congr
      intro j hj
      have hj' := List.mem_range.1 hj
      unfold Lib.keeps
      rw [hk j hj']
      by_cases h0 : j = 0
      · simp [h0]
      · rw [hk (j - 1) (by omega)]
    rw [hf]
    apply List.map_congr_left
    intro j hj
    exact hk j (List.mem_range.1 (List.mem_filter.1 hj).1)
  · have hy : (xs ++ [y]).toArray[xs.length]! = y := by
      rw [getElem!_pos _ _ (by simp)]
      simp
    by_cases h0 : xs = []
    · subst h0
      simp [Lib.keeps]
    · have hp : 0 < xs.length := List.length_pos_iff.2 h0
      have hl : xs.getLast? = some xs.toArray[xs.length - 1]! := by
        rw [List.getLast?_eq_getElem?, getElem!_pos _ _ (by simp; omega)]
        simp
      have hkp : Lib.keeps (xs ++ [y]).toArray xs.length = !decide (xs.getLast? = some y) := by
        unfold Lib.keeps
        rw [hy, hk (xs.length - 1) (by omega), hl]
        generalize xs.toArray[xs.length - 1]! = z
        by_cases hz : y = z
        · have h1 : ¬ (xs.length = 0 ∨ y ≠ z) := by intro h; rcases h with h | h; omega; exact h hz
          simp [hz]
          exact h0
        · have h1 : ¬ z = y := fun e => hz e.symm
          simp [hz, h1]
      by_cases hq : xs.getLast? = some y
      · simp [hkp, hq]
      · simp [hkp, hq]
theorem compact_uniq (xs : List Int) : Lib.compact xs = uniqF xs := by
  obtain ⟨r, rfl⟩ : ∃ r : List Int, xs = r.reverse := ⟨xs.reverse, (List.reverse_reverse xs).symm⟩
  induction r with
  | nil => rfl
  | cons y r ih =>
    rw [List.reverse_cons, compact_snoc, ih]
    cases hx : r.reverse with
    | nil => rfl
    | cons x q =>
      show uniqF (x :: q) ++ _ = uniqF (x :: (q ++ [y]))
      simp only [uniqF]
      rw [uqF_snoc, List.cons_append]
      congr 2
      have : (x :: q).getLast? = some (q.getLastD x) := by rw [List.getLast?_cons, List.getLastD_eq_getLast?]
      rw [this]
      simp
theorem uqF_le : ∀ (xs : List Int) (p : Int), (uqF p xs).length ≤ xs.length
  | [], _ => Nat.le_refl _
  | x :: r, p => by
    simp only [uqF]
    by_cases h : x = p
    · rw [if_pos h]
      have := uqF_le r p
      simp
      omega
    · rw [if_neg h]
      have := uqF_le r x
      simp
      omega
theorem uniqF_le (xs : List Int) : (uniqF xs).length ≤ xs.length := by
  cases xs with
  | nil => exact Nat.le_refl _
  | cons x r =>
    have := uqF_le r x
    simp [uniqF]
    omega
theorem compact_row (e0 base : Nat) (ok : Nat → Prop) (v : Value) (xs : List Int) (w : World) (h : Kd.R (Kd.int .i64) e0 w base ok v xs) (hl : xs.length < 4611686018427387904) :
    Calls Try.prog 52 #[v] w fun e w' => ∃ v', e = .returned v' ∧ Kd.R (Kd.int .i64) e0 w' base ok v' (uniqF xs) ∧ w.grownBy w' v.ownBlock ∧ v'.ownBlock = v.ownBlock := by
  obtain ⟨h0, ho⟩ := int_row h
  rcases Nat.eq_zero_or_pos xs.length with hz | hp
  · obtain rfl : xs = [] := List.eq_nil_of_length_eq_zero hz
    obtain ⟨A, c, rfl⟩ := own_slice ho
    refine (Try.slices_Compact_int_empty A c w).mono ?_
    rintro e w' ⟨rfl, rfl⟩
    exact ⟨_, rfl, h, World.grownBy.refl w' _, rfl⟩
  obtain ⟨g, cap, rfl, hb, hg⟩ := ho.form hp
  have hcap : xs.length ≤ cap := own_le ho
  refine (Try.slices_Compact_int g 0 cap xs w (row_holds ho) (by omega) hcap).mono ?_
  rw [compact_uniq]
  rintro e w' ⟨rfl, q, rfl⟩
  have hlen := uniqF_le xs
  obtain ⟨h1, h2⟩ := row_put (q := q) (os := #[]) (ds := uniqF xs ++ List.replicate (xs.length - (uniqF xs).length) 0) ho (by simp; omega) (uniqF xs).length hlen
  rw [grow_empty] at h1 h2
  rw [List.take_left] at h1
  exact ⟨_, rfl, row_int (fun b hb => h0 b hb) h1, h2, rfl⟩
end Go.Proofs.Ytbacdpagpdmkoaa.Man
