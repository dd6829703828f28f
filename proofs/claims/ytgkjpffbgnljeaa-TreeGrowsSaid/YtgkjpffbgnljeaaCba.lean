/- Texts of this claim laid together: SortC, TreeZ, TreeZb, TreeZc, TreeZd, QA8. -/
import Derived.Test.YtgkjpffbgnljeaaCaz
/- slices.Sort and slices.Compact of numbers, at a row of the call's own. -/
set_option linter.unusedVariables false
namespace Go.Proofs.Ytgkjpffbgnljeaa.Man
open Go.RowKit Go.Sort Go.Proofs.YtgkjpffbgnljeaaW.PrintWords Go.Proofs.YtgkjpffbgnljeaaW.PrintLast Go.Proofs.YtgkjpffbgnljeaaW.PrintMore
theorem int_row {k : IntKind} {e base : Nat} {w : World} {ok : Nat → Prop} {v : Value} {xs : List Int} (h : Kd.R (Kd.int k) e w base ok v xs) : (∀ b, v.ownBlock = some b → ok b) ∧ w.ownsRow base e 1 v xs.length (nums k xs) := by
 obtain ⟨h0, inner, ho, hl, hr⟩ := h
 refine ⟨h0, ?_⟩
 have : inner = nums k xs := by
  change inner.length = xs.length * 1 at hl
  apply List.ext_getElem?
  intro j
  by_cases hj : j < xs.length
  ·have hx : xs[j]? = some xs[j] := List.getElem?_eq_getElem hj
   have h1 : (inner.drop (j * 1)).take 1 = [.int k xs[j]] := hr j _ hx
   have h2 : inner[j]? = some (.int k xs[j]) := by
    have : ((inner.drop (j * 1)).take 1)[0]? = some (.int k xs[j]) := by rw [h1]; rfl
    simpa using this
   rw [h2]
   simp [nums, hx]
  ·rw [List.getElem?_eq_none (by omega), List.getElem?_eq_none (by rw [nums_length]; omega)]
 rw [← this]
 exact ho
theorem row_int {k : IntKind} {e base : Nat} {w : World} {ok : Nat → Prop} {v : Value} {xs : List Int} (h0 : ∀ b, v.ownBlock = some b → ok b) (h : w.ownsRow base e 1 v xs.length (nums k xs)) : Kd.R (Kd.int k) e w base ok v xs := by
 refine ⟨h0, nums k xs, h, by rw [nums_length]; exact (Nat.mul_one _).symm, fun j p hj => ?_⟩
 show ((nums k xs).drop (j * 1)).take 1 = [.int k p]
 have hl : j < xs.length := (List.getElem?_eq_some_iff.1 hj).1
 have hp : xs[j] = p := by simpa [List.getElem?_eq_getElem hl] using hj
 apply List.ext_getElem?
 intro i
 cases i with
 | zero => simp [nums, hj]
 | succ i => simp [List.getElem?_take]
theorem row_holds {k : IntKind} {base g n cap : Nat} {e : TypeId} {w : World} {xs : List Int} (h : w.ownsRow base e 1 (.slice (some ⟨g, 0, none⟩) n cap) n (nums k xs)) : Holds (Value.int k) w g 0 xs.toArray := by
 have hl : xs.length = n := by have := h.1; simp [nums] at this; exact this
 intro j hj
 have hj' : j < xs.length := by simpa using hj
 obtain ⟨h1, h2⟩ := own_at h (j : Int) (by omega) (by omega)
 rw [Int.toNat_natCast] at h1 h2
 rw [Nat.zero_add]
 refine ⟨?_, h2⟩
 rw [h1]
 congr 2
 rw [getElem!_pos xs.toArray j hj]
 simp [Go.Proofs.YtgkjpffbgnljeaaW.PrintWords.rd, List.getD_eq_getElem?_getD, hj']
theorem row_put {k : IntKind} {base g n cap q : Nat} {e : TypeId} {w : World} {xs ds : List Int} {os : Array Obj} (h : w.ownsRow base e 1 (.slice (some ⟨g, 0, none⟩) n cap) n (nums k xs)) (hd : ds.length = n) (m : Nat) (hm : m ≤ n) :
  (grow (putRow (Value.int k) (Sort.ahead w q) g 0 ds.toArray) os).ownsRow base e 1 (.slice (some ⟨g, 0, none⟩) m cap) m (nums k (ds.take m)) ∧ w.grownBy (grow (putRow (Value.int k) (Sort.ahead w q) g 0 ds.toArray) os) (some g) := by
 have hl : xs.length = n := by have := h.1; simp [nums] at this; exact this
 rcases h.2 with ⟨h', _⟩ | ⟨g', cap', cur, h', hb, hh, h1, h2, h3, h4⟩
 ·cases h'
 injection h' with e1 _ e3
 injection e1 with e1
 injection e1 with e1
 subst e1 e3
 have hg : g < w.heap.size := (Array.getElem?_eq_some_iff.1 hh).1
 have hsz : (putRow (Value.int k) (Sort.ahead w q) g 0 ds.toArray).heap.size = w.heap.size := by simp [putRow, mapBlock, Sort.ahead]
 have hnew : (grow (putRow (Value.int k) (Sort.ahead w q) g 0 ds.toArray) os).heap[g]? = some (.cells (putCells (Value.int k) 0 ds.toArray cur) e (0, 0)) := by
  rw [heap_grow_old _ _ (by rw [hsz]; exact hg)]
  show (w.heap.modify g (onCells (putCells (Value.int k) 0 ds.toArray)))[g]? = _
  rw [Array.getElem?_modify, if_pos rfl, hh]
  rfl
 refine ⟨⟨by rw [nums_length, List.length_take]; omega, .inr ⟨g, cap, _, rfl, hb, hnew, by omega, h2, ?_, ?_⟩⟩, ⟨rfl, rfl, rfl, ?_, fun j hj hne => ?_⟩⟩
 ·rw [putCells, Array.size_mapIdx]; exact h3
 ·apply List.ext_getElem?
  intro j
  rw [List.getElem?_take]
  by_cases hj : j < m
  ·have hjc : j < cur.size := by omega
   have hjd : j < ds.length := by omega
   rw [if_pos (by omega), Array.getElem?_toList, putCells, Array.getElem?_mapIdx, Array.getElem?_eq_getElem hjc]
   simp only [Option.map_some, nums, List.getElem?_map, List.getElem?_take, if_pos hj, List.getElem?_eq_getElem hjd]
   rw [if_pos ⟨Nat.zero_le _, by simpa using hjd⟩, Nat.sub_zero, getElem!_pos ds.toArray j (by simpa using hjd)]
   simp
  ·rw [if_neg (by omega), List.getElem?_eq_none (by rw [nums_length, List.length_take]; omega)]
 ·show w.heap.size ≤ ((putRow (Value.int k) (Sort.ahead w q) g 0 ds.toArray).heap ++ os).size
  rw [Array.size_append, hsz]
  omega
 ·rw [heap_grow_old _ _ (by rw [hsz]; exact hj)]
  show (w.heap.modify g (onCells (putCells (Value.int k) 0 ds.toArray)))[j]? = _
  rw [Array.getElem?_modify, if_neg (fun e => hne (by rw [e]))]
def sortF (xs : List Int) : List Int := xs.mergeSort fun x y => decide (x ≤ y)
theorem sortF_length (xs : List Int) : (sortF xs).length = xs.length := List.length_mergeSort xs
theorem sort_row (e0 base : Nat) (ok : Nat → Prop) (v : Value) (xs : List Int) (w : World) (h : Kd.R (Kd.int .i64) e0 w base ok v xs) (hl : xs.length < 4611686018427387904) :
  Calls Try.prog 49 #[v] w fun e w' => e = .returned (.tuple #[]) ∧ Kd.R (Kd.int .i64) e0 w' base ok v (sortF xs) ∧ w.grownBy w' v.ownBlock := by
 obtain ⟨h0, ho⟩ := int_row h
 rcases Nat.eq_zero_or_pos xs.length with hz | hp
 ·obtain rfl : xs = [] := List.eq_nil_of_length_eq_zero hz
  obtain ⟨A, c, rfl⟩ := own_slice ho
  refine (Try.slices_Sort_int_none A c w).mono ?_
  rintro e w' ⟨rfl, rfl⟩
  exact ⟨rfl, by simpa [sortF] using h, World.grownBy.refl w' _⟩
 obtain ⟨g, cap, rfl, hb, hg⟩ := ho.form hp
 refine (Try.slices_Sort_int g 0 cap xs w (row_holds ho) hg hl).mono ?_
 rintro e w' ⟨rfl, q, os, rfl⟩
 obtain ⟨h1, h2⟩ := row_put (q := q) (os := os) (ds := sortF xs) ho (sortF_length xs) xs.length (Nat.le_refl _)
 rw [List.take_of_length_le (by rw [sortF_length]; exact Nat.le_refl _)] at h1
 refine ⟨rfl, row_int h0 ?_, h2⟩
 rw [sortF_length]
 exact h1
def uqF (p : Int) : List Int → List Int
 | [] => []
 | x :: r => if x = p then uqF p r else x :: uqF x r
def uniqF : List Int → List Int
 | [] => []
 | x :: r => x :: uqF x r
theorem uqF_snoc (y : Int) : ∀ (xs : List Int) (p : Int), uqF p (xs ++ [y]) = uqF p xs ++ if xs.getLastD p = y then [] else [y]
 | [], p => by
  show (if y = p then [] else [y]) = _
  by_cases h : y = p
  ·simp [h, uqF]
  ·have : ¬ p = y := fun e => h e.symm
   simp [h, this, uqF]
 | x :: r, p => by
  simp only [List.cons_append, uqF]
  by_cases h : x = p
  ·rw [if_pos h, if_pos h, uqF_snoc y r p, List.getLastD_cons, h]
  ·rw [if_neg h, if_neg h, uqF_snoc y r x, List.getLastD_cons, List.cons_append]
theorem compact_snoc (xs : List Int) (y : Int) : Lib.compact (xs ++ [y]) = Lib.compact xs ++ if xs.getLast? = some y then [] else [y] := by
 unfold Lib.compact Lib.compactUpTo
 rw [List.length_append, List.length_singleton, List.range_succ, List.filter_append, List.map_append]
 have hk : ∀ j, j < xs.length → (xs ++ [y]).toArray[j]! = xs.toArray[j]! := fun j hj => by
  rw [getElem!_pos _ j (by simp; omega), getElem!_pos _ j (by simpa using hj)]
  simp [List.getElem_append_left hj]
 congr 1
 ·have hf : (List.range xs.length).filter (Lib.keeps (xs ++ [y]).toArray) = (List.range xs.length).filter (Lib.keeps xs.toArray) := by
   apply List.filter_congr
   intro j hj
   have hj' := List.mem_range.1 hj
   unfold Lib.keeps
   rw [hk j hj']
   by_cases h0 : j = 0
   ·simp [h0]
   ·rw [hk (j - 1) (by omega)]
  rw [hf]
  apply List.map_congr_left
  intro j hj
  exact hk j (List.mem_range.1 (List.mem_filter.1 hj).1)
 ·have hy : (xs ++ [y]).toArray[xs.length]! = y := by
   rw [getElem!_pos _ _ (by simp)]
   simp
  by_cases h0 : xs = []
  ·subst h0
   simp [Lib.keeps]
  ·have hp : 0 < xs.length := List.length_pos_iff.2 h0
   have hl : xs.getLast? = some xs.toArray[xs.length - 1]! := by
    rw [List.getLast?_eq_getElem?, getElem!_pos _ _ (by simp; omega)]
    simp
   have hkp : Lib.keeps (xs ++ [y]).toArray xs.length = !decide (xs.getLast? = some y) := by
    unfold Lib.keeps
    rw [hy, hk (xs.length - 1) (by omega), hl]
    generalize xs.toArray[xs.length - 1]! = z
    by_cases hz : y = z
    ·have h1 : ¬ (xs.length = 0 ∨ y ≠ z) := by intro h; rcases h with h | h; omega; exact h hz
     simp [hz]
     exact h0
    ·have h1 : ¬ z = y := fun e => hz e.symm
     simp [hz, h1]
   by_cases hq : xs.getLast? = some y
   ·simp [hkp, hq]
   ·simp [hkp, hq]
theorem compact_uniq (xs : List Int) : Lib.compact xs = uniqF xs := by
 obtain ⟨r, rfl⟩ : ∃ r : List Int, xs = r.reverse := ⟨xs.reverse, (List.reverse_reverse xs).symm⟩
 induction r with
 | nil => rfl
 | cons y r ih =>
  rw [List.reverse_cons, compact_snoc, ih]
  cases hx : r.reverse with
  | nil => rfl
  | cons x q =>
   show uniqF (x :: q) ++ _ = uniqF (x :: (q ++ [y]))
   simp only [uniqF]
   rw [uqF_snoc, List.cons_append]
   congr 2
   have : (x :: q).getLast? = some (q.getLastD x) := by rw [List.getLast?_cons, List.getLastD_eq_getLast?]
   rw [this]
   simp
theorem uqF_le : ∀ (xs : List Int) (p : Int), (uqF p xs).length ≤ xs.length
 | [], _ => Nat.le_refl _
 | x :: r, p => by
  simp only [uqF]
  by_cases h : x = p
  ·rw [if_pos h]
   have := uqF_le r p
   simp
   omega
  ·rw [if_neg h]
   have := uqF_le r x
   simp
   omega
theorem uniqF_le (xs : List Int) : (uniqF xs).length ≤ xs.length := by
 cases xs with
 | nil => exact Nat.le_refl _
 | cons x r =>
  have := uqF_le r x
  simp [uniqF]
  omega
theorem compact_row (e0 base : Nat) (ok : Nat → Prop) (v : Value) (xs : List Int) (w : World) (h : Kd.R (Kd.int .i64) e0 w base ok v xs) (hl : xs.length < 4611686018427387904) :
  Calls Try.prog 51 #[v] w fun e w' => ∃ v', e = .returned v' ∧ Kd.R (Kd.int .i64) e0 w' base ok v' (uniqF xs) ∧ w.grownBy w' v.ownBlock ∧ v'.ownBlock = v.ownBlock := by
 obtain ⟨h0, ho⟩ := int_row h
 rcases Nat.eq_zero_or_pos xs.length with hz | hp
 ·obtain rfl : xs = [] := List.eq_nil_of_length_eq_zero hz
  obtain ⟨A, c, rfl⟩ := own_slice ho
  refine (Try.slices_Compact_int_empty A c w).mono ?_
  rintro e w' ⟨rfl, rfl⟩
  exact ⟨_, rfl, h, World.grownBy.refl w' _, rfl⟩
 obtain ⟨g, cap, rfl, hb, hg⟩ := ho.form hp
 have hcap : xs.length ≤ cap := own_le ho
 refine (Try.slices_Compact_int g 0 cap xs w (row_holds ho) (by omega) hcap).mono ?_
 rw [compact_uniq]
 rintro e w' ⟨rfl, q, rfl⟩
 have hlen := uniqF_le xs
 obtain ⟨h1, h2⟩ := row_put (q := q) (os := #[]) (ds := uniqF xs ++ List.replicate (xs.length - (uniqF xs).length) 0) ho (by simp; omega) (uniqF xs).length hlen
 rw [grow_empty] at h1 h2
 rw [List.take_left] at h1
 exact ⟨_, rfl, row_int (fun b hb => h0 b hb) h1, h2, rfl⟩
end Go.Proofs.Ytgkjpffbgnljeaa.Man
/- tree.Meets, Points: what they answer, and that the calls answer so. -/
set_option linter.unusedVariables false
set_option linter.unusedSimpArgs false
namespace Go.Proofs.Ytgkjpffbgnljeaa.Man
open Go.RowKit Go.Proofs.Ytgkjpffbgnljeaa.QT Go.Proofs.Ytgkjpffbgnljeaa.TreeM Go.Proofs.YtgkjpffbgnljeaaW.PrintWords Go.Proofs.YtgkjpffbgnljeaaW.PrintLast Go.Proofs.YtgkjpffbgnljeaaW.PrintMore
noncomputable def meetsF (ns : List Nd) (root : Int) (fr : List Int) (s0 s1 : Int) : List It × Int := if mayT (cellN ns) ns.length root fr = true ∧ mayF s0 s1 = true then ((meetsT s0 s1 (treeOf (cellN ns) ns.length root fr)).map toI, 0) else ([], 1700)
theorem meetsF_yes {ns : List Nd} {root : Int} {fr : List Int} {s0 s1 : Int} {t : T} (h : IsT (cellN ns) ns.length root fr t) (hs : mayF s0 s1 = true) : meetsF ns root fr s0 s1 = ((meetsT s0 s1 t).map toI, 0) := by unfold meetsF; rw [if_pos ⟨mayT_true.2 ⟨t, h⟩, hs⟩, treeOf_is h]
theorem meetsF_no {ns : List Nd} {root : Int} {fr : List Int} {s0 s1 : Int} (h : ¬ (mayT (cellN ns) ns.length root fr = true ∧ mayF s0 s1 = true)) : meetsF ns root fr s0 s1 = ([], 1700) := by unfold meetsF; rw [if_neg h]
set_option maxHeartbeats 4000000 in
set_option maxRecDepth 100000 in
theorem meets_tree (A : Option Addr) (c : Nat) (ns : List Nd) (root : Int) (F : Option Addr) (cf : Nat) (fr : List Int) (s0 s1 : Int) (w : World) (hr : Kd.C k64 w A ns.length ns) (hf : Kd.C (Kd.int .i64) w F fr.length fr) (hlf : fr.length ≤ 281474976710656) :
  Calls Try.prog 14 #[.agg #[.slice A ns.length c, .int .i64 root, .slice F fr.length cf], .agg #[.int .i64 s0, .int .i64 s1]] w fun e w' => ∃ v0_ : Value, e = .returned (.tuple #[v0_, .int .i64 (meetsF ns root fr s0 s1).2]) ∧ Kd.R k50 50 w' w.heap.size (fun _ => True) v0_ (meetsF ns root fr s0 s1).1 ∧ Below w.heap.size w w' := by
 have HB : Hid (Below w.heap.size w ((w.alloc (.cells #[.slice A ns.length c, .int .i64 root, .slice F fr.length cf] 25)).alloc (.cells #[.int .i64 s0, .int .i64 s1] 27))) := Lib.hid (below_alloc ((Below.refl _ _).alloc (Nat.le_refl _) _) _)
 have HT : Hid (((w.alloc (.cells #[.slice A ns.length c, .int .i64 root, .slice F fr.length cf] 25)).alloc (.cells #[.int .i64 s0, .int .i64 s1] 27)).heap[w.heap.size]? = some (.cells #[.slice A ns.length c, .int .i64 root, .slice F fr.length cf] 25 (0, 0))) := Lib.hid (blk_alloc (blk_new w (.cells #[.slice A ns.length c, .int .i64 root, .slice F fr.length cf] 25 (0, 0))) _)
 have HS : Hid (((w.alloc (.cells #[.slice A ns.length c, .int .i64 root, .slice F fr.length cf] 25)).alloc (.cells #[.int .i64 s0, .int .i64 s1] 27)).heap[w.heap.size + 1]? = some (.cells #[.int .i64 s0, .int .i64 s1] 27 (0, 0))) := Lib.hid (by have := blk_new (w.alloc (.cells #[.slice A ns.length c, .int .i64 root, .slice F fr.length cf] 25)) (.cells #[.int .i64 s0, .int .i64 s1] 27 (0, 0)); simpa using this)
 have HM := Lib.hid (may_tree A c ns root F cf fr ((w.alloc (.cells #[.slice A ns.length c, .int .i64 root, .slice F fr.length cf] 25)).alloc (.cells #[.int .i64 s0, .int .i64 s1] 27)) (Kd.C_below hr HB.out) (Kd.C_below hf HB.out) hlf)
 have HCN : Hid (∀ W', Below w.heap.size w W' → Kd.C k64 W' A ns.length ns) := Lib.hid fun W' hb => Kd.C_below hr hb
 have HCF : Hid (∀ W', Below w.heap.size w W' → Kd.C (Kd.int .i64) W' F fr.length fr) := Lib.hid fun W' hb => Kd.C_below hf hb
 have HSM : Hid (∀ W', Calls Try.prog 47 #[.agg #[.int .i64 s0, .int .i64 s1]] W' fun e w' => e = .returned (.bool (mayF s0 s1)) ∧ Below W'.heap.size W' w') := Lib.hid fun W' => may_is s0 s1 W'
 have p0 := blk_cell HT.out 0
 have p1 := blk_cell HT.out 1
 have p2 := blk_cell HT.out 2
 simp at p0 p1 p2
 clear hr hf
 cases hmay : mayT (cellN ns) ns.length root fr with
 | false =>
  have HV := Lib.hid (meetsF_no (s0 := s0) (s1 := s1) (show ¬ (mayT (cellN ns) ns.length root fr = true ∧ mayF s0 s1 = true) by rw [hmay]; simp))
  rw [hmay] at HM
  rw [HV.out]
  clear hmay
  go_enter Try.func14, Try.ntmps14
  go_wp2_with fail
  generalize ((w.alloc (.cells #[.slice A ns.length c, .int .i64 root, .slice F fr.length cf] 25)).alloc (.cells #[.int .i64 s0, .int .i64 s1] 27)) = w3 at *
  refine HM.out.mono ?_
  rintro e w4 ⟨rfl, hb4⟩
  replace HT := Lib.hid (blk_below HT.out hb4)
  replace HS := Lib.hid (blk_below HS.out hb4)
  replace HB := Lib.hid (below_then HB.out HB.out.size hb4)
  clear hb4
  clear HM p0 p1 p2
  go_wp2_with fail
  go_ret2
  exact ⟨_, rfl, Kd.R_nil _ _ _ _ _, HB.out⟩
 | true =>
  obtain ⟨t, ht⟩ := mayT_true.1 hmay
  have HTT := Lib.hid ht
  rw [hmay] at HM
  clear hmay ht
  cases hs : mayF s0 s1 with
  | false =>
   have HV := Lib.hid (meetsF_no (ns := ns) (root := root) (fr := fr) (s0 := s0) (s1 := s1) (fun h => by rw [hs] at h; cases h.2))
   rw [hs] at HSM
   rw [HV.out]
   clear hs
   go_enter Try.func14, Try.ntmps14
   go_wp2_with fail
   generalize ((w.alloc (.cells #[.slice A ns.length c, .int .i64 root, .slice F fr.length cf] 25)).alloc (.cells #[.int .i64 s0, .int .i64 s1] 27)) = w3 at *
   refine HM.out.mono ?_
   rintro e w4 ⟨rfl, hb4⟩
   replace HT := Lib.hid (blk_below HT.out hb4)
   replace HS := Lib.hid (blk_below HS.out hb4)
   replace HB := Lib.hid (below_then HB.out HB.out.size hb4)
   clear hb4
   clear HM p0 p1 p2
   have q0 := blk_cell HS.out 0
   have q1 := blk_cell HS.out 1
   simp at q0 q1
   go_wp2_with fail
   refine (HSM.out w4).mono ?_
   rintro e w5 ⟨rfl, hb5⟩
   replace HB := Lib.hid (below_then HB.out HB.out.size hb5)
   clear hb5 HSM q0 q1
   go_wp2_with fail
   go_ret2
   exact ⟨_, rfl, Kd.R_nil _ _ _ _ _, HB.out⟩
  | true =>
   have HV := Lib.hid (meetsF_yes HTT.out hs)
   rw [hs] at HSM
   rw [HV.out]
   clear hs
   go_enter Try.func14, Try.ntmps14
   go_wp2_with fail
   generalize ((w.alloc (.cells #[.slice A ns.length c, .int .i64 root, .slice F fr.length cf] 25)).alloc (.cells #[.int .i64 s0, .int .i64 s1] 27)) = w3 at *
   refine HM.out.mono ?_
   rintro e w4 ⟨rfl, hb4⟩
   replace HT := Lib.hid (blk_below HT.out hb4)
   replace HS := Lib.hid (blk_below HS.out hb4)
   replace HB := Lib.hid (below_then HB.out HB.out.size hb4)
   clear hb4
   clear HM p0 p1 p2
   have q0 := blk_cell HS.out 0
   have q1 := blk_cell HS.out 1
   simp at q0 q1
   go_wp2_with fail
   refine (HSM.out w4).mono ?_
   rintro e w5 ⟨rfl, hb5⟩
   replace HB := Lib.hid (below_then HB.out HB.out.size hb5)
   replace HT := Lib.hid (blk_below HT.out hb5)
   replace HS := Lib.hid (blk_below HS.out hb5)
   clear hb5 HSM q0 q1
   have HBd : Hid (Below w.heap.size w w5.drew) := Lib.hid (below_drew HB.out)
   have HOW := Lib.hid (own_is A c ns root F cf fr w5.drew (HCN.out _ HBd.out) (HCF.out _ HBd.out) (by have := HTT.out.size; omega) (by have := HTT.out.free_le; omega))
   have HTd : Hid (w5.drew.heap[w.heap.size]? = some (.cells #[.slice A ns.length c, .int .i64 root, .slice F fr.length cf] 25 (0, 0))) := Lib.hid HT.out
   have HSd : Hid (w5.drew.heap[w.heap.size + 1]? = some (.cells #[.int .i64 s0, .int .i64 s1] 27 (0, 0))) := Lib.hid HS.out
   have d0 := blk_cell HTd.out 0
   have d1 := blk_cell HTd.out 1
   have d2 := blk_cell HTd.out 2
   have u0 := blk_cell HSd.out 0
   have u1 := blk_cell HSd.out 1
   simp at d0 d1 d2 u0 u1
   go_wp2_with fail
   go_region_with (first
    | (go_at_call 45; refine HOW.out.mono ?_; rintro e w6 ⟨q, A2, c2, vf2, rfl, hA6, hb6, _⟩; have HA6 := Lib.hid hA6; have HB6 := Lib.hid (below_then HBd.out HBd.out.size hb6); have HT6 := Lib.hid (blk_below HTd.out hb6); have HS6 := Lib.hid (blk_below HSd.out hb6); have e1 := blk_cell HT6.out 1; have e2 := blk_cell HS6.out 0; have e3 := blk_cell HS6.out 1; simp at e1 e2 e3; clear hb6 hA6)
    | (go_at_call 48; refine (meets_all t root w6 w6 q A2 ns.length c2 (cellN ns) s0 s1 none 0 (fun _ => False) [] HA6.out.hd (Rd.of_C (by obtain ⟨A_, c_, e_, _, hC_⟩ := Kd.R_reads HA6.out.nd; injection e_ with e_ _ _; subst e_; rw [listN_length, listN_cellN] at hC_; exact hC_)) (Below.refl _ _) (Kd.R_nil _ _ _ _ _) HTT.out.good.hang HTT.out.good.within HTT.out.row (fun k h => h.elim) (by have := HTT.out.items_le; simp; omega)).mono ?_; rintro e w7 ⟨v7, rfl, hr7, hb7, _⟩; simp only [List.nil_append] at hr7; have HR7 : Hid (Kd.R k50 50 w7 w.heap.size (fun _ => True) v7 ((meetsT s0 s1 t).map toI)) := Lib.hid (Kd.R_mono (Kd.R_lower hr7 HB6.out.size) (fun _ _ => trivial)); have HB7 : Hid (Below w.heap.size w w7) := Lib.hid (below_then HB6.out HB6.out.size hb7); clear hr7 hb7))
   all_goals
    go_wp2_with fail
    go_ret2
    exact ⟨_, rfl, HR7.out, HB7.out⟩
noncomputable def tree_Meets.f (l0_0 : List Nd) (a0_1 : Int) (l0_2 : List Int) (a1_0 a1_1 : Int) : Option (List It × Int) := if l0_2.length < 17592186044416 then some (meetsF l0_0 a0_1 l0_2 a1_0 a1_1) else none
theorem tree_Meets.calls (A0_0 : Option Addr) (c0_0 : Nat) (l0_0 : List Nd) (a0_1 : Int) (A0_2 : Option Addr) (c0_2 : Nat) (l0_2 : List Int) (a1_0 a1_1 : Int) (r1 : List It) (r2 : Int) (w : World) (hr0_0 : Kd.C k64 w A0_0 l0_0.length l0_0) (hc0_0 : l0_0.length ≤ c0_0) (hr0_2 : Kd.C (Kd.int .i64) w A0_2 l0_2.length l0_2) (hc0_2 : l0_2.length ≤ c0_2) (h : tree_Meets.f l0_0 a0_1 l0_2 a1_0 a1_1 = some (r1, r2)) :
  Calls Try.prog 14 #[.agg #[.slice A0_0 l0_0.length c0_0, .int .i64 a0_1, .slice A0_2 l0_2.length c0_2], .agg #[.int .i64 a1_0, .int .i64 a1_1]] w fun e w' => ∃ v0_ : Value, e = .returned (.tuple #[v0_, .int .i64 r2]) ∧ Kd.R k50 50 w' w.heap.size (fun _ => True) v0_ r1 ∧ Below w.heap.size w w' := by
 unfold tree_Meets.f at h
 split at h
 ·simp only [Option.some.injEq] at h
  have h1 : (meetsF l0_0 a0_1 l0_2 a1_0 a1_1).1 = r1 := by rw [h]
  have h2 : (meetsF l0_0 a0_1 l0_2 a1_0 a1_1).2 = r2 := by rw [h]
  subst h1 h2
  exact meets_tree A0_0 c0_0 l0_0 a0_1 A0_2 c0_2 l0_2 a1_0 a1_1 w hr0_0 hr0_2 (by omega)
 ·cases h
end Go.Proofs.Ytgkjpffbgnljeaa.Man
/- slices.Clip, tree.Points: what they answer, and that the calls answer so. -/
set_option linter.unusedVariables false
set_option linter.unusedSimpArgs false
namespace Go.Proofs.Ytgkjpffbgnljeaa.Man
open Go.RowKit Go.Proofs.Ytgkjpffbgnljeaa.QT Go.Proofs.Ytgkjpffbgnljeaa.TreeM Go.Proofs.YtgkjpffbgnljeaaW.PrintWords Go.Proofs.YtgkjpffbgnljeaaW.PrintLast Go.Proofs.YtgkjpffbgnljeaaW.PrintMore
theorem clip_is (A : Option Addr) (n c : Nat) (w : World) (hA : A = none → n = 0) (h : n ≤ c) (hn : n ≤ 281474976710656) : Calls Try.prog 50 #[.slice A n c] w fun e w' => e = .returned (.slice A n n) ∧ w' = w := by
 have h1 : (0 : Int) ≤ (n : Int) := by omega
 have h2 : (n : Int) ≤ (c : Int) := by omega
 cases A with
 | none =>
  have h0 := hA rfl
  subst h0
  clear hA
  go_enter Try.func50, Try.ntmps50
  go_wp2
  go_ret
  exact ⟨rfl, rfl⟩
 | some ad =>
  clear hA
  go_enter Try.func50, Try.ntmps50
  go_wp2
  go_ret
  exact ⟨rfl, rfl⟩
def inF (s0 s1 p : Int) : Bool := decide (s0 < p) && decide (p < s1)
def ptsOf (s0 s1 : Int) (xs : List Itm) : List Int := xs.flatMap (fun x => [x.fr, x.to_].filter (inF s0 s1))
theorem ptsOf_snoc (s0 s1 : Int) (xs : List Itm) (x : Itm) : ptsOf s0 s1 (xs ++ [x]) = ptsOf s0 s1 xs ++ [x.fr, x.to_].filter (inF s0 s1) := by simp [ptsOf]
theorem ptsOf_le (s0 s1 : Int) : ∀ xs : List Itm, (ptsOf s0 s1 xs).length ≤ 2 * xs.length
 | [] => by simp [ptsOf]
 | x :: xs => by
  have := ptsOf_le s0 s1 xs
  have h2 := List.length_filter_le (inF s0 s1) [x.fr, x.to_]
  simp only [ptsOf, List.flatMap_cons, List.length_append, List.length_cons, List.length_nil] at *
  omega
def pointsF1 (s0 s1 : Int) (xs : List Itm) : List Int := uniqF (sortF (ptsOf s0 s1 xs))
noncomputable def pointsF (ns : List Nd) (root : Int) (fr : List Int) (s0 s1 : Int) : List Int × Int := if mayT (cellN ns) ns.length root fr = true ∧ mayF s0 s1 = true then (pointsF1 s0 s1 (meetsT s0 s1 (treeOf (cellN ns) ns.length root fr)), 0) else ([], 1700)
theorem pointsF_yes {ns : List Nd} {root : Int} {fr : List Int} {s0 s1 : Int} {t : T} (h : IsT (cellN ns) ns.length root fr t) (hs : mayF s0 s1 = true) : pointsF ns root fr s0 s1 = (pointsF1 s0 s1 (meetsT s0 s1 t), 0) := by unfold pointsF; rw [if_pos ⟨mayT_true.2 ⟨t, h⟩, hs⟩, treeOf_is h]
theorem pointsF_no {ns : List Nd} {root : Int} {fr : List Int} {s0 s1 : Int} (h : ¬ (mayT (cellN ns) ns.length root fr = true ∧ mayF s0 s1 = true)) : pointsF ns root fr s0 s1 = ([], 1700) := by unfold pointsF; rw [if_neg h]
theorem R_foot {W : World} {base : Nat} {A : Option Addr} {n c : Nat} {xs : List Int} (h : Kd.R (Kd.int .i64) 3 W base (fun _ => True) (.slice A n c) xs) : Kd.F (Kd.int .i64) W (fun k => base ≤ k) A n xs := by
 intro W' hm
 have h2 := Kd.R_step (Kd.R_mono (ok' := fun k => base ≤ k) (Kd.R_bound h) (fun k hk => hk.2.1)) (fun k hk hlt => hm k hk hlt)
 obtain ⟨A', c', e, _, hC⟩ := Kd.R_reads h2
 injection e with e1 e2 e3
 subst e1 e2 e3
 exact hC
set_option maxHeartbeats 8000000 in
set_option maxRecDepth 100000 in
theorem points_tree (A : Option Addr) (c : Nat) (ns : List Nd) (root : Int) (F : Option Addr) (cf : Nat) (fr : List Int) (s0 s1 : Int) (w : World) (hr : Kd.C k64 w A ns.length ns) (hf : Kd.C (Kd.int .i64) w F fr.length fr) (hlf : fr.length ≤ 281474976710656) :
  Calls Try.prog 15 #[.agg #[.slice A ns.length c, .int .i64 root, .slice F fr.length cf], .agg #[.int .i64 s0, .int .i64 s1]] w fun e w' => ∃ A', e = .returned (.tuple #[.slice A' (pointsF ns root fr s0 s1).1.length (pointsF ns root fr s0 s1).1.length, .int .i64 (pointsF ns root fr s0 s1).2]) ∧ Kd.F (Kd.int .i64) w' (fun k => w.heap.size ≤ k) A' (pointsF ns root fr s0 s1).1.length (pointsF ns root fr s0 s1).1 ∧ Below w.heap.size w w' := by
 have HB : Hid (Below w.heap.size w ((w.alloc (.cells #[.slice A ns.length c, .int .i64 root, .slice F fr.length cf] 25)).alloc (.cells #[.int .i64 s0, .int .i64 s1] 27))) := Lib.hid (below_alloc ((Below.refl _ _).alloc (Nat.le_refl _) _) _)
 have HT : Hid (((w.alloc (.cells #[.slice A ns.length c, .int .i64 root, .slice F fr.length cf] 25)).alloc (.cells #[.int .i64 s0, .int .i64 s1] 27)).heap[w.heap.size]? = some (.cells #[.slice A ns.length c, .int .i64 root, .slice F fr.length cf] 25 (0, 0))) := Lib.hid (blk_alloc (blk_new w (.cells #[.slice A ns.length c, .int .i64 root, .slice F fr.length cf] 25 (0, 0))) _)
 have HS : Hid (((w.alloc (.cells #[.slice A ns.length c, .int .i64 root, .slice F fr.length cf] 25)).alloc (.cells #[.int .i64 s0, .int .i64 s1] 27)).heap[w.heap.size + 1]? = some (.cells #[.int .i64 s0, .int .i64 s1] 27 (0, 0))) := Lib.hid (by have := blk_new (w.alloc (.cells #[.slice A ns.length c, .int .i64 root, .slice F fr.length cf] 25)) (.cells #[.int .i64 s0, .int .i64 s1] 27 (0, 0)); simpa using this)
 have HM := Lib.hid (meets_tree A c ns root F cf fr s0 s1 ((w.alloc (.cells #[.slice A ns.length c, .int .i64 root, .slice F fr.length cf] 25)).alloc (.cells #[.int .i64 s0, .int .i64 s1] 27)) (Kd.C_below hr HB.out) (Kd.C_below hf HB.out) hlf)
 have p0 := blk_cell HT.out 0
 have p1 := blk_cell HT.out 1
 have p2 := blk_cell HT.out 2
 have q0 := blk_cell HS.out 0
 have q1 := blk_cell HS.out 1
 simp at p0 p1 p2 q0 q1
 clear hr hf
 by_cases hok : mayT (cellN ns) ns.length root fr = true ∧ mayF s0 s1 = true
 case neg =>
  have HV := Lib.hid (pointsF_no hok)
  rw [meetsF_no hok] at HM
  clear hok
  rw [HV.out]
  go_enter Try.func15, Try.ntmps15
  go_wp2_with fail
  generalize ((w.alloc (.cells #[.slice A ns.length c, .int .i64 root, .slice F fr.length cf] 25)).alloc (.cells #[.int .i64 s0, .int .i64 s1] 27)) = w3 at *
  refine HM.out.mono ?_
  rintro e w4 ⟨v4, rfl, hr4, hb4⟩
  replace HT := Lib.hid (blk_below HT.out hb4)
  replace HS := Lib.hid (blk_below HS.out hb4)
  replace HB := Lib.hid (below_then HB.out HB.out.size hb4)
  clear hb4
  clear HM p0 p1 p2 q0 q1
  obtain ⟨Av, cv, ev⟩ := Kd.R_slice hr4
  subst ev
  clear hr4
  go_wp2_with fail
  go_ret2
  exact ⟨none, rfl, R_foot (Kd.R_nil _ _ _ _ _), HB.out⟩
 case pos =>
  obtain ⟨t, ht⟩ := mayT_true.1 hok.1
  have HV := Lib.hid (pointsF_yes ht hok.2)
  rw [meetsF_yes ht hok.2] at HM
  have hxl : (meetsT s0 s1 t).length ≤ 32 := Nat.le_trans (List.length_filter_le _ _) ht.items_le
  clear hok ht
  rw [HV.out]
  generalize meetsT s0 s1 t = xs at *
  go_enter Try.func15, Try.ntmps15
  go_wp2_with fail
  generalize ((w.alloc (.cells #[.slice A ns.length c, .int .i64 root, .slice F fr.length cf] 25)).alloc (.cells #[.int .i64 s0, .int .i64 s1] 27)) = w3 at *
  refine HM.out.mono ?_
  rintro e w4 ⟨v4, rfl, hr4, hb4⟩
  replace HT := Lib.hid (blk_below HT.out hb4)
  replace HS := Lib.hid (blk_below HS.out hb4)
  replace HB := Lib.hid (below_then HB.out HB.out.size hb4)
  clear hb4
  clear HM p0 p1 p2 q0 q1 HT
  obtain ⟨Av, cv, ev, hcv, hC4⟩ := Kd.R_reads hr4
  subst ev
  have hml : (xs.map toI).length = xs.length := List.length_map ..
  rw [hml] at hcv hC4 ⊢
  have HC4 := Lib.hid hC4
  have HBB : Hid (w.heap.size ≤ w4.heap.size) := Lib.hid HB.out.size
  clear hr4 hC4 hml HV
  go_wp2_with fail
  go_loopg [8, 24] xs.length (fun g v i wr => ∃ k : Nat, k ≤ xs.length ∧ g = xs.length - k ∧ i = .int .i64 (k : Int) ∧ Kd.R (Kd.int .i64) 3 wr w4.heap.size (fun _ => True) v (ptsOf s0 s1 (xs.take k)) ∧ Below w4.heap.size w4 wr)
  case atStart => exact ⟨0, Nat.zero_le _, rfl, rfl, Kd.R_nil _ _ _ _ _, Below.refl _ _⟩
  case round =>
   obtain ⟨k, hk, hgk, rfl, hrk, hbk⟩ := hrel
   have HRK := Lib.hid hrk
   have HBK := Lib.hid hbk
   have HGK := Lib.hid hgk
   clear hrk hbk hgk
   obtain ⟨A8, c8, e8⟩ := Kd.R_slice HRK.out
   subst e8
   by_cases hlt : k < xs.length
   case neg =>
    have hd : decide ((k : Int) < (xs.length : Int)) = false := decide_eq_false (by omega)
    have hxk : xs.take k = xs := List.take_of_length_le (by omega)
    rw [hxk] at HRK ⊢
    have HLP : Hid ((ptsOf s0 s1 xs).length ≤ 64) := Lib.hid (by have := ptsOf_le s0 s1 xs; omega)
    have HSO := Lib.hid (sort_row _ _ _ _ _ wr HRK.out (by have := HLP.out; omega))
    clear hxk hk
    go_wp2_with fail
    refine HSO.out.mono ?_
    rintro e w5 ⟨rfl, hr5, hg5⟩
    have HB5 : Hid (Below w4.heap.size w4 w5) := Lib.hid (pw_below_grown HBK.out _ HBK.out.size hg5 (fun k e => by obtain ⟨inner, ho⟩ := Kd.R_own HRK.out; exact own_base ho k e))
    have HLS : Hid ((sortF (ptsOf s0 s1 xs)).length ≤ 64) := Lib.hid (by rw [sortF_length]; exact HLP.out)
    have HSL : Hid ((sortF (ptsOf s0 s1 xs)).length = (ptsOf s0 s1 xs).length) := Lib.hid (sortF_length _)
    have HCO := Lib.hid (compact_row _ _ _ _ _ w5 hr5 (by have := HLS.out; omega))
    have HR5 := Lib.hid hr5
    clear hr5 hg5 HSO
    go_wp2_with fail
    refine HCO.out.mono ?_
    rintro e w6 ⟨v6, rfl, hr6, hg6, _⟩
    have HB6 : Hid (Below w4.heap.size w4 w6) := Lib.hid (pw_below_grown HB5.out _ HB5.out.size hg6 (fun k e => by obtain ⟨inner, ho⟩ := Kd.R_own HR5.out; exact own_base ho k e))
    obtain ⟨A6, c6, e6, hc6, hC6⟩ := Kd.R_reads hr6
    subst e6
    have HR6 := Lib.hid hr6
    have HLU : Hid ((uniqF (sortF (ptsOf s0 s1 xs))).length ≤ 64) := Lib.hid (by have := uniqF_le (sortF (ptsOf s0 s1 xs)); have := HLS.out; omega)
    have HCL := Lib.hid (clip_is A6 (uniqF (sortF (ptsOf s0 s1 xs))).length c6 w6 (fun e => by
     by_cases h0 : 0 < (uniqF (sortF (ptsOf s0 s1 xs))).length
     ·obtain ⟨ad, e2, _⟩ := hC6.2.2 h0
      rw [e] at e2; cases e2
     ·omega) hc6 (by have := HLU.out; omega))
    clear hr6 hg6 hC6 HCO
    go_wp2_with fail
    refine HCL.out.mono ?_
    rintro e w7 ⟨rfl, rfl⟩
    have HFF : Hid (Kd.F (Kd.int .i64) w7 (fun k => w.heap.size ≤ k) A6 (pointsF1 s0 s1 xs).length (pointsF1 s0 s1 xs)) := Lib.hid (R_foot (Kd.R_lower HR6.out HBB.out))
    have HBF : Hid (Below w.heap.size w w7) := Lib.hid (below_then HB.out HB.out.size HB6.out)
    clear HCL
    go_wp2_with fail
    go_ret2
    exact ⟨A6, rfl, HFF.out, HBF.out⟩
   case pos =>
    obtain ⟨ad, eA, x0, x1, x2⟩ := at_T50 (Kd.C_below HC4.out HBK.out) (k : Int) (by omega) (by omega)
    have hr0 : rd_T50 (xs.map toI) (k : Int) = toI xs[k] := by unfold rd_T50; rw [Int.toNat_natCast]; simp [List.getD, hlt]
    rw [hr0, Int.toNat_natCast] at x0 x1 x2
    have HTK : Hid (ptsOf s0 s1 (xs.take (k + 1)) = ptsOf s0 s1 (xs.take k) ++ [xs[k].fr, xs[k].to_].filter (inF s0 s1)) := Lib.hid (by rw [List.take_succ_eq_append_getElem hlt, ptsOf_snoc])
    have HLK : Hid ((ptsOf s0 s1 (xs.take k)).length ≤ 64) := Lib.hid (by have := ptsOf_le s0 s1 (xs.take k); rw [List.length_take] at this; omega)
    generalize xs[k] = u at x0 x1 x2 HTK
    obtain ⟨u0, u1, u2⟩ := u
    simp only [toI] at x0 x1 x2
    simp only at HTK
    clear hr0
    have HEA := Lib.hid eA
    subst eA
    have hd : decide ((k : Int) < (xs.length : Int)) = true := decide_eq_true (by omega)
    have hwk : IntKind.i64.wrap ((k : Int) + 1) = ((k + 1 : Nat) : Int) := by rw [IntWalk.i64_in _ (by omega)]; omega
    have g0 : (0 : Int) ≤ (k : Int) := by omega
    have g1 : (k : Int) < (xs.length : Int) := by omega
    have HKL := Lib.hid hlt
    have HSK := Lib.hid (blk_below HS.out HBK.out)
    clear hlt hk
    have hwsz : w.heap.size + 1 < w4.heap.size := blk_lt HS.out
    have HLB : Hid (((wr.alloc (.cells #[.int .i64 u0, .int .i64 u1, .int .i64 u2] 50)).alloc (.cells #[.int .i64 u0, .int .i64 u1] 3)).heap[wr.heap.size + 1]? = some (.cells #[.int .i64 u0, .int .i64 u1] 3 (0, 0))) := Lib.hid (by have := blk_new (wr.alloc (.cells #[.int .i64 u0, .int .i64 u1, .int .i64 u2] 50)) (.cells #[.int .i64 u0, .int .i64 u1] 3 (0, 0)); simpa using this)
    have HBI : Hid (Below w4.heap.size w4 ((wr.alloc (.cells #[.int .i64 u0, .int .i64 u1, .int .i64 u2] 50)).alloc (.cells #[.int .i64 u0, .int .i64 u1] 3))) := Lib.hid (below_alloc (below_alloc HBK.out _) _)
    have HRI : Hid (Kd.R (Kd.int .i64) 3 ((wr.alloc (.cells #[.int .i64 u0, .int .i64 u1, .int .i64 u2] 50)).alloc (.cells #[.int .i64 u0, .int .i64 u1] 3)) w4.heap.size (fun k => k ≠ wr.heap.size + 1) (.slice A8 (ptsOf s0 s1 (xs.take k)).length c8) (ptsOf s0 s1 (xs.take k))) := Lib.hid (Kd.R_mono (Kd.R_below (Kd.R_bound HRK.out) (((Below.refl wr.heap.size wr).alloc (Nat.le_refl _) _).alloc (by simp) _)) (fun k hk => by have := hk.2.2.1; omega))
    go_wp2_with fail
    generalize (wr.alloc (.cells #[.int .i64 u0, .int .i64 u1, .int .i64 u2] 50)).alloc (.cells #[.int .i64 u0, .int .i64 u1] 3) = w5 at *
    generalize wr.heap.size + 1 = lb at *
    generalize ptsOf s0 s1 (xs.take k) = P0 at *
    clear x0 x1 x2 HSK HRK HBK
    go_loopg [8, 36] 2 (fun g v i wi => ∃ j : Nat, j ≤ 2 ∧ g = 2 - j ∧ i = .int .i64 (j : Int) ∧ Kd.R (Kd.int .i64) 3 wi w4.heap.size (fun k => k ≠ lb) v (P0 ++ ([u0, u1].take j).filter (inF s0 s1)) ∧ Below w4.heap.size w4 wi ∧ wi.heap[lb]? = some (.cells #[.int .i64 u0, .int .i64 u1] 3 (0, 0)))
    case atStart => exact ⟨0, Nat.zero_le _, rfl, rfl, by simpa using HRI.out, HBI.out, HLB.out⟩
    case round =>
     obtain ⟨j, hj, hgj, rfl, hrj, hbj, hlj⟩ := hrel
     have HRJ := Lib.hid hrj
     have HBJ := Lib.hid hbj
     have HLJ := Lib.hid hlj
     have HGJ := Lib.hid hgj
     clear hrj hbj hlj hgj HRI HBI HLB
     obtain ⟨A9, c9, e9⟩ := Kd.R_slice HRJ.out
     subst e9
     by_cases hj2 : j < 2
     case neg =>
      have hjj : j = 2 := by omega
      subst hjj
      go_wp2
      go_roundg (xs.length - (k + 1))
      case measure => rw [HGK.out]; have := HKL.out; omega
      case rel => exact ⟨k + 1, by have := HKL.out; omega, rfl, by go_num, by rw [HTK.out]; exact Kd.R_mono HRJ.out (fun _ _ => trivial), HBJ.out⟩
     case pos =>
      obtain ⟨pt, hpt, hpc⟩ : ∃ pt, [u0, u1].take (j + 1) = [u0, u1].take j ++ [pt] ∧ wr.cell? ⟨lb, j, none⟩ = some (.int .i64 pt) := by
       match j, hj2 with
       | 0, _ => exact ⟨u0, rfl, (blk_cell HLJ.out 0).trans rfl⟩
       | 1, _ => exact ⟨u1, rfl, (blk_cell HLJ.out 1).trans rfl⟩
      have HPT : Hid (P0 ++ ([u0, u1].take (j + 1)).filter (inF s0 s1) = (P0 ++ ([u0, u1].take j).filter (inF s0 s1)) ++ (if inF s0 s1 pt = true then [pt] else [])) := Lib.hid (by rw [hpt, List.filter_append, List.filter_cons]; split <;> simp)
      have HLJ2 : Hid ((P0 ++ ([u0, u1].take j).filter (inF s0 s1)).length ≤ 70) := Lib.hid (by
       have := HLK.out
       have h2 := List.length_filter_le (inF s0 s1) ([u0, u1].take j)
       have h3 : ([u0, u1].take j).length ≤ 2 := by rw [List.length_take]; exact Nat.min_le_right _ _
       simp only [List.length_append]; omega)
      have hdj : decide ((j : Int) < 2) = true := decide_eq_true (by omega)
      have hwj : IntKind.i64.wrap ((j : Int) + 1) = ((j + 1 : Nat) : Int) := by rw [IntWalk.i64_in _ (by omega)]; omega
      have hj0 : (0 : Int) ≤ (j : Int) := by omega
      have hj1 : (j : Int) < 2 := by omega
      have hsj := blk_below HS.out HBJ.out
      have q0 := blk_cell hsj 0
      have q1 := blk_cell hsj 1
      simp at q0 q1
      have HJ2 := Lib.hid hj2
      clear hpt hsj hj hj2
      generalize P0 ++ ([u0, u1].take j).filter (inF s0 s1) = P1 at *
      by_cases h1 : s0 < pt
      case neg =>
       have hd1 : decide (s0 < pt) = false := decide_eq_false h1
       have HPN : Hid (P0 ++ ([u0, u1].take (j + 1)).filter (inF s0 s1) = P1) := Lib.hid (by rw [HPT.out, if_neg (by unfold inF; rw [hd1]; simp), List.append_nil])
       clear h1
       go_wp2_with fail
       go_roundg (2 - (j + 1))
       case measure => rw [HGJ.out]; have := HJ2.out; omega
       case rel => exact ⟨j + 1, by have := HJ2.out; omega, rfl, by go_num, by rw [HPN.out]; exact HRJ.out, HBJ.out, HLJ.out⟩
      case pos =>
       have hd1 : decide (s0 < pt) = true := decide_eq_true h1
       by_cases h2 : pt < s1
       case neg =>
        have hd2 : decide (pt < s1) = false := decide_eq_false h2
        have HPN : Hid (P0 ++ ([u0, u1].take (j + 1)).filter (inF s0 s1) = P1) := Lib.hid (by rw [HPT.out, if_neg (by unfold inF; rw [hd2]; simp), List.append_nil])
        clear h1 h2
        go_wp2_with fail
        go_roundg (2 - (j + 1))
        case measure => rw [HGJ.out]; have := HJ2.out; omega
        case rel => exact ⟨j + 1, by have := HJ2.out; omega, rfl, by go_num, by rw [HPN.out]; exact HRJ.out, HBJ.out, HLJ.out⟩
       case pos =>
        have hd2 : decide (pt < s1) = true := decide_eq_true h2
        have HPN : Hid (P0 ++ ([u0, u1].take (j + 1)).filter (inF s0 s1) = P1 ++ [pt]) := Lib.hid (by rw [HPT.out, if_pos (by unfold inF; rw [hd1, hd2]; rfl)])
        have HLL : Hid ((P1.length + 1) * 8 ≤ 140737488355328) := Lib.hid (by have := HLJ2.out; omega)
        have HLT : Hid (lb < wr.heap.size) := Lib.hid (blk_lt HLJ.out)
        clear h1 h2
        go_wp2_with (first | ((with_reducible refine gate_builtin (b := .append) (xs := #[.tmp 50, .tmp 52]) rfl ?_); at_builtin; refine Kd.R_append (Kd.int .i64) (w0 := w4) w4.heap.size rfl (.tmp 50) (.tmp 52) 23 3 (.int .i64 0) 8 rfl Try.underlying23 info3 rfl (by decide) (by omega) (.slice A9 P1.length c9) P1 pt [.int .i64 pt] (fun k => k ≠ lb) (fun _ => False) rfl rfl ?aP (fun _ hk => hk.elim) ?aF ?aO ?aB ?aS ?aL ?_; (case aP => exact rfl); (case aF => exact (fun k hk => by have := HLT.out; omega)); (case aO => exact HRJ.out); (case aB => exact HBJ.out); (case aS => exact HBJ.out.size); (case aL => exact HLL.out); intro v6 w6 ho6 hb6 hg6 _; have HO6 := Lib.hid ho6; have HB6 := Lib.hid hb6; have HL6 := Lib.hid (blk_grown HLJ.out hg6 (fun e => HRJ.out.1 lb e.symm rfl)); clear ho6 hb6 hg6))
        go_roundg (2 - (j + 1))
        case measure => rw [HGJ.out]; have := HJ2.out; omega
        case rel => exact ⟨j + 1, by have := HJ2.out; omega, rfl, by go_num, by rw [HPN.out]; exact HO6.out, HB6.out, HL6.out⟩
end Go.Proofs.Ytgkjpffbgnljeaa.Man
/- tree.Points in the printed form: its row may lie in a greater one. -/
set_option linter.unusedVariables false
namespace Go.Proofs.Ytgkjpffbgnljeaa.Man
open Go.RowKit Go.Proofs.Ytgkjpffbgnljeaa.QT Go.Proofs.Ytgkjpffbgnljeaa.TreeM Go.Proofs.YtgkjpffbgnljeaaW.PrintWords Go.Proofs.YtgkjpffbgnljeaaW.PrintLast Go.Proofs.YtgkjpffbgnljeaaW.PrintMore
noncomputable def tree_Points.f (l0_0 : List Nd) (a0_1 : Int) (l0_2 : List Int) (a1_0 a1_1 : Int) : Option (List Int × Int) := if l0_2.length < 17592186044416 then some (pointsF l0_0 a0_1 l0_2 a1_0 a1_1) else none
theorem tree_Points.calls (A0_0 : Option Addr) (c0_0 : Nat) (l0_0 : List Nd) (a0_1 : Int) (A0_2 : Option Addr) (c0_2 : Nat) (l0_2 : List Int) (a1_0 a1_1 : Int) (r1 : List Int) (r2 : Int) (w : World) (hr0_0 : Kd.C k64 w A0_0 l0_0.length l0_0) (hc0_0 : l0_0.length ≤ c0_0) (hr0_2 : Kd.C (Kd.int .i64) w A0_2 l0_2.length l0_2) (hc0_2 : l0_2.length ≤ c0_2) (h : tree_Points.f l0_0 a0_1 l0_2 a1_0 a1_1 = some (r1, r2)) :
  Calls Try.prog 15 #[.agg #[.slice A0_0 l0_0.length c0_0, .int .i64 a0_1, .slice A0_2 l0_2.length c0_2], .agg #[.int .i64 a1_0, .int .i64 a1_1]] w fun e w' => ∃ v0_ : Value, e = .returned (.tuple #[v0_, .int .i64 r2]) ∧ Kd.V (Kd.int .i64) 3 w' w.heap.size (fun k_ => (w.heap.size ≤ k_)) v0_ r1 ∧ Below w.heap.size w w' := by
 unfold tree_Points.f at h
 split at h
 ·simp only [Option.some.injEq] at h
  have h1 : (pointsF l0_0 a0_1 l0_2 a1_0 a1_1).1 = r1 := by rw [h]
  have h2 : (pointsF l0_0 a0_1 l0_2 a1_0 a1_1).2 = r2 := by rw [h]
  subst h1 h2
  refine (points_tree A0_0 c0_0 l0_0 a0_1 A0_2 c0_2 l0_2 a1_0 a1_1 w hr0_0 hr0_2 (by omega)).mono ?_
  rintro e w' ⟨A', rfl, hF, hb⟩
  exact ⟨_, rfl, ⟨A', _, rfl, Nat.le_refl _, hF⟩, hb⟩
 ·cases h
end Go.Proofs.Ytgkjpffbgnljeaa.Man
/- A layout for each tree; what insF and delF answer is again a tree that may be. -/
set_option linter.unusedVariables false
set_option linter.unusedSimpArgs false
namespace Go.Proofs.Ytgkjpffbgnljeaa.Man
open Go.RowKit Go.Proofs.Ytgkjpffbgnljeaa.QT Go.Proofs.Ytgkjpffbgnljeaa.TreeM Go.Proofs.YtgkjpffbgnljeaaW.PrintWords Go.Proofs.YtgkjpffbgnljeaaW.PrintLast Go.Proofs.YtgkjpffbgnljeaaW.PrintMore
def layF : T → Cells
 | .nil => fun _ => 0
 | .node p x l r => fun j => if j / 7 = p then (match j % 7 with | 0 => x.fr | 1 => x.to_ | 2 => x.id | 3 => plc l | 4 => plc r | 5 => (hgt (.node p x l r) : Int) | _ => most (.node p x l r)) else if j / 7 ∈ places l then layF l j else layF r j
theorem layF_blank : ∀ (t : T) (s : Nat), s ∉ places t → ∀ k, k < 7 → layF t (s * 7 + k) = 0
 | .nil, _, _, _, _ => rfl
 | .node p x l r, s, hs, k, hk => by
  simp only [places, List.mem_append, List.mem_cons, not_or] at hs
  have e : (s * 7 + k) / 7 = s := by omega
  simp only [layF, e, if_neg hs.2.1, if_neg hs.1]
  exact layF_blank r s hs.2.2 k hk
theorem layF_hang : ∀ t : T, (places t).Nodup → Hang (layF t) t (plc t)
 | .nil, _ => rfl
 | .node p x l r, h => by
  have ap := Apart.of h
  have hc : ∀ k, k < 7 → layF (.node p x l r) (p * 7 + k) = (match k with | 0 => x.fr | 1 => x.to_ | 2 => x.id | 3 => plc l | 4 => plc r | 5 => (hgt (.node p x l r) : Int) | _ => most (.node p x l r)) := by
   intro k hk
   have e : (p * 7 + k) / 7 = p := by omega
   have e2 : (p * 7 + k) % 7 = k := by omega
   simp only [layF, e, e2, if_pos]
  have hl : Off (fun s => s ∉ places l) (layF l) (layF (.node p x l r)) := by
   intro s hs k hk
   have hs' : s ∈ places l := Classical.not_not.1 hs
   have e : (s * 7 + k) / 7 = s := by omega
   have hne : s ≠ p := fun e => ap.nl (e ▸ hs')
   simp only [layF, e, if_neg hne, if_pos hs']
  have hr : Off (fun s => s ∉ places r) (layF r) (layF (.node p x l r)) := by
   intro s hs k hk
   have hs' : s ∈ places r := Classical.not_not.1 hs
   have e : (s * 7 + k) / 7 = s := by omega
   have hne : s ≠ p := fun e => ap.nr (e ▸ hs')
   have hnl : s ∉ places l := fun g => ap.lr s g hs'
   simp only [layF, e, if_neg hne, if_neg hnl]
  refine ⟨rfl, ⟨hc 0 (by omega), hc 1 (by omega), hc 2 (by omega)⟩, ?_, ?_, hc 5 (by omega), hc 6 (by omega)⟩
  ·rw [hc 3 (by omega)]; exact Hang.off hl (layF_hang l ap.dl) (fun s hs => fun g => g hs)
  ·rw [hc 4 (by omega)]; exact Hang.off hr (layF_hang r ap.dr) (fun s hs => fun g => g hs)
theorem IsT.ext {a b : Cells} {nn : Nat} {root : Int} {fr : List Int} {t : T} (h : IsT a nn root fr t) (g : ∀ j, j < nn * 7 → a j = b j) : IsT b nn root fr t := by
 obtain ⟨fn, hf⟩ := h.frees
 refine IsT.mk' h.size ⟨Hang.within g h.good.hang h.good.within, h.good.within, h.good.nodup, h.good.off, h.good.bal, h.good.may⟩ ⟨fn, hf.eq, hf.nodup, hf.lt, hf.off, fun p hp k hk => ?_, hf.all⟩ h.row
 have := hf.lt p hp
 rw [← g _ (by omega)]; exact hf.blank p hp k hk
theorem cellN_far (ns : List Nd) (s k : Nat) (hs : ns.length ≤ s) (hk : k < 7) : cellN ns (s * 7 + k) = 0 := by
 rw [cellN_at _ _ hk, List.getD, List.getElem?_eq_none hs]
 rcases k with _ | _ | _ | _ | _ | _ | _ | k
 all_goals first | rfl | omega
theorem nodesOf_lay (nn : Nat) (t : T) (h : (places t).Nodup) : nodesOf nn t = listN nn (layF t) := nodesOf_is (layF_hang t h) (fun s _ hm k hk => layF_blank t s hm k hk)
theorem IsT.lay {nn : Nat} {root : Int} {fr : List Int} {t : T} (h : IsT (layF t) nn root fr t) : IsT (cellN (nodesOf nn t)) (nodesOf nn t).length root fr t := by
 rw [nodesOf_lay nn t h.good.nodup, listN_length]
 exact h.ext (fun j hj => (cellN_listN _ hj).symm)
theorem ins_step {ns : List Nd} {root : Int} {fr : List Int} {t : T} {x : Itm} (h : IsT (cellN ns) ns.length root fr t) (hx : itmayF x = true) (hm : x ∉ items t) (hl : ¬ 32 ≤ (items t).length) :
  ∃ ns' root' fr', insF ns root fr x = ((ns', root', fr'), 0) ∧ IsT (cellN ns') ns'.length root' fr' (put t x (placeOf ns.length fr)) := by
 obtain ⟨fn, hf⟩ := h.frees
 have hpo := place_off hf h.good.within
 refine ⟨_, _, _, insF_ok h hx hm hl, IsT.lay (IsT.put h hx hm (by omega) (layF_hang _ (nodup_put h.good.nodup hpo)) ?_)⟩
 intro s hs k hk
 simp only [not_or] at hs
 rw [layF_blank _ s (fun g => (mem_put.1 g).elim hs.2 hs.1) k hk]
 by_cases hb : s < ns.length
 ·exact (hf.blanks s hb hs.1 k hk).symm
 ·exact (cellN_far ns s k (by omega) hk).symm
theorem ins_items {t : T} {x : Itm} {p : Nat} (h : Row (items t)) : items (put t x p) = withF (items t) x := items_put x p t h
theorem del_step {ns : List Nd} {root : Int} {fr : List Int} {t : T} {x : Itm} (h : IsT (cellN ns) ns.length root fr t) (hm : x ∈ items t) :
  ∃ ns' root' fr', delF ns root fr x = ((ns', root', fr'), 0) ∧ IsT (cellN ns') ns'.length root' fr' (TreeM.drop t x) := by
 obtain ⟨fn, hf⟩ := h.frees
 obtain ⟨d1, d2⟩ := nodup_drop h.good.nodup h.row hm
 have hmem := fun s => mem_drop (s := s) h.row hm
 refine ⟨_, _, _, delF_ok h hm, IsT.lay (IsT.drop h hm (layF_hang _ d2) ?_ (fun k hk => layF_blank _ _ d1 k hk))⟩
 intro s hs k hk
 rw [layF_blank _ s (fun g => hs ((hmem s).2 (.inr g))) k hk]
 by_cases hb : s < ns.length
 ·exact (hf.blanks s hb hs k hk).symm
 ·exact (cellN_far ns s k (by omega) hk).symm
theorem isT_new : IsT (cellN []) ([] : List Nd).length (-1) [] .nil := IsT.mk' (Nat.zero_le _) (good_nil _ _ _) ⟨[], rfl, by simp, by simp, by simp, by simp, fun p hp => by simp at hp⟩ List.Pairwise.nil
end Go.Proofs.Ytgkjpffbgnljeaa.Man
-- written by this session's program mprint.py: functions of the Go program, and their contracts
namespace Go.Proofs.Ytgkjpffbgnljeaa.QA
open Go.RowKit Go.Proofs.Ytgkjpffbgnljeaa.Au Go.Proofs.Ytgkjpffbgnljeaa.QT  Go.Proofs.YtgkjpffbgnljeaaW.PrintWords Go.Proofs.YtgkjpffbgnljeaaW.PrintLast Go.Proofs.YtgkjpffbgnljeaaW.PrintMore
attribute [local go_sem] max2_int min2_int max_two min_two max_three min_three max_four min_four
set_option linter.unusedVariables false
set_option linter.unusedSimpArgs false
attribute [local go_sem high] eqA50 eqA64
def tollbarref19_SameInts.l0 : Nat → List Int → List Int → Int → Option (Bool)
 | 0, _, _, _ => none
 | k + 1, x0, x1, x5 => if x5 < (x0.length : Int) then (if 0 ≤ x5 then (if x5 < (x1.length : Int) then (if (rd x0 x5) = (rd x1 x5) then (tollbarref19_SameInts.l0 k x0 x1 (wrap64 (x5 + 1))) else (some false)) else (none)) else (none)) else (some true)
def tollbarref19_SameInts.f (k : Nat) (l0 : List Int) (l1 : List Int) : Option (Bool) := if (l0.length : Int) = (l1.length : Int) then (tollbarref19_SameInts.l0 k l0 l1 0) else (some false)
set_option maxHeartbeats 8000000 in
set_option maxRecDepth 100000 in
theorem tollbarref19_SameInts.calls (k : Nat) (A0 : Option Addr) (c0 : Nat) (l0 : List Int) (A1 : Option Addr) (c1 : Nat) (l1 : List Int) (r : Bool) (w : World) (hr0 : Kd.C (Kd.int .i64) w A0 l0.length l0) (hc0 : l0.length ≤ c0) (hr1 : Kd.C (Kd.int .i64) w A1 l1.length l1) (hc1 : l1.length ≤ c1) (h : tollbarref19_SameInts.f k l0 l1 = some r) :
  Calls Try.prog 57 #[.slice A0 l0.length c0, .slice A1 l1.length c1] w fun e w' => e = .returned (.bool r) ∧ Drawn0 w w' := by
 have HR0 := zK hr0
 have HC0 := zK hc0
 clear hr0 hc0
 have HR1 := zK hr1
 have HC1 := zK hc1
 clear hr1 hc1
 have H : (if (l0.length : Int) = (l1.length : Int) then (tollbarref19_SameInts.l0 k l0 l1 0) else (some false)) = some r := h
 clear h
 by_cases c3 : (l0.length : Int) = (l1.length : Int)
 ·rw [if_pos c3] at H
  have c3b0 : ((l0.length : Int) == (l1.length : Int)) = true := yI.mpr c3
  have c3b1 : ((l0.length : Int) != (l1.length : Int)) = false := yJ.mpr c3
  have c3b2 : (l0.length == l1.length) = true := by first | simpa using c3 | (simp at c3 ⊢; omega)
  clear c3
  have H' := zK H
  clear H
  go_enter Try.func57, Try.ntmps57
  go_wp2
  repeat (go_quiet (fail); try go_wp2)
  go_loopg [5] k (fun kq v5 w' => ∃ (x5_1 : Int), v5 = .int .i64 x5_1 ∧ Aside0 (tollbarref19_SameInts.l0 kq l0 l1 x5_1 = some r) ∧ Aside0 (kq ≤ k) ∧ Drawn0 w w')
  case atStart => exact ⟨(0), zz, H', ⟨Nat.le_refl _⟩, by repeat (first | exact Drawn0.refl _ | apply Drawn0.step)⟩
  case round =>
   clear H'
   try clear c1
   try clear p2
   try clear c3
   try clear c3b0
   try clear c3b1
   try clear c3b2
   obtain ⟨x5_1, rfl, HA, HK1, ⟨m1, rfl⟩⟩ := hrel
   cases gk with
   | zero => exact absurd HA.out (by simp [tollbarref19_SameInts.l0])
   | succ k1 =>
    have H := HA.out
    clear HA
    simp only [tollbarref19_SameInts.l0] at H
    by_cases c4 : x5_1 < (l0.length : Int)
    ·rw [if_pos c4] at H
     have c4b0 : decide (x5_1 < (l0.length : Int)) = true := decide_eq_true c4
     clear c4
     by_cases c5 : 0 ≤ x5_1
     ·rw [if_pos c5] at H
      have c5b0 : decide (0 ≤ x5_1) = true := decide_eq_true c5
      clear c5
      by_cases c6 : x5_1 < (l1.length : Int)
      ·rw [if_pos c6] at H
       have c6b0 : decide (x5_1 < (l1.length : Int)) = true := decide_eq_true c6
       clear c6
       by_cases c7 : (rd l0 x5_1) = (rd l1 x5_1)
       ·rw [if_pos c7] at H
        have c7b0 : ((rd l0 x5_1) == (rd l1 x5_1)) = true := yI.mpr c7
        have c7b1 : ((rd l0 x5_1) != (rd l1 x5_1)) = false := yJ.mpr c7
        clear c7
        have H' := zK H
        clear H
        have p205 : 0 ≤ (x5_1 : Int) := of_decide_eq_true (by first | (with_reducible assumption) | assumption)
        have q205 : x5_1 < (l0.length : Int) := of_decide_eq_true (by first | (with_reducible assumption) | assumption)
        obtain ⟨ad205, e205, hx205_0⟩ := Kd.at_int HR0.out x5_1 p205 q205
        cases e205
        replace p205 := eq_true p205
        replace q205 := eq_true q205
        have p206 : 0 ≤ (x5_1 : Int) := of_decide_eq_true (by first | (with_reducible assumption) | assumption)
        have q206 : x5_1 < (l1.length : Int) := of_decide_eq_true (by first | (with_reducible assumption) | assumption)
        obtain ⟨ad206, e206, hx206_0⟩ := Kd.at_int HR1.out x5_1 p206 q206
        cases e206
        replace p206 := eq_true p206
        replace q206 := eq_true q206
        go_wp2
        repeat (go_quiet (fail); try go_wp2)
        go_roundg k1
        case measure => have := HK1.out; omega
        case rel => exact ⟨(wrap64 (x5_1 + 1)), zz, H', ⟨by have := HK1.out; omega⟩, by repeat (first | exact Drawn0.refl _ | apply Drawn0.step)⟩
       ·rw [if_neg c7] at H
        have c7b0 : ((rd l0 x5_1) == (rd l1 x5_1)) = false := yK.mpr c7
        have c7b1 : ((rd l0 x5_1) != (rd l1 x5_1)) = true := yL.mpr c7
        obtain rfl := Option.some.inj H
        have p205 : 0 ≤ (x5_1 : Int) := of_decide_eq_true (by first | (with_reducible assumption) | assumption)
        have q205 : x5_1 < (l0.length : Int) := of_decide_eq_true (by first | (with_reducible assumption) | assumption)
        obtain ⟨ad205, e205, hx205_0⟩ := Kd.at_int HR0.out x5_1 p205 q205
        cases e205
        replace p205 := eq_true p205
        replace q205 := eq_true q205
        have p206 : 0 ≤ (x5_1 : Int) := of_decide_eq_true (by first | (with_reducible assumption) | assumption)
        have q206 : x5_1 < (l1.length : Int) := of_decide_eq_true (by first | (with_reducible assumption) | assumption)
        obtain ⟨ad206, e206, hx206_0⟩ := Kd.at_int HR1.out x5_1 p206 q206
        cases e206
        replace p206 := eq_true p206
        replace q206 := eq_true q206
        go_wp2
        repeat (go_quiet (fail); try go_wp2)
        go_ret
        exact ⟨by first | rfl | (simp; done) | (simp [*]; done), by repeat (first | exact Drawn0.refl _ | apply Drawn0.step)⟩
      ·rw [if_neg c6] at H
       exact absurd H (by simp)
     ·rw [if_neg c5] at H
      exact absurd H (by simp)
    ·rw [if_neg c4] at H
     have c4b0 : decide (x5_1 < (l0.length : Int)) = false := decide_eq_false c4
     clear c4
     obtain rfl := Option.some.inj H
     go_wp2
     repeat (go_quiet (fail); try go_wp2)
     go_ret
     exact ⟨by first | rfl | (simp; done) | (simp [*]; done), by repeat (first | exact Drawn0.refl _ | apply Drawn0.step)⟩
 ·rw [if_neg c3] at H
  have c3b0 : ((l0.length : Int) == (l1.length : Int)) = false := yK.mpr c3
  have c3b1 : ((l0.length : Int) != (l1.length : Int)) = true := yL.mpr c3
  have c3b2 : (l0.length == l1.length) = false := by first | simpa using c3 | (simp at c3 ⊢; omega)
  obtain rfl := Option.some.inj H
  go_enter Try.func57, Try.ntmps57
  go_wp2
  repeat (go_quiet (fail); try go_wp2)
  go_ret
  exact ⟨by first | rfl | (simp; done) | (simp [*]; done), by repeat (first | exact Drawn0.refl _ | apply Drawn0.step)⟩
def tollbarlaw0_SameInts.f (k : Nat) (l0 : List Int) (l1 : List Int) : Option (Bool) := (tollbarref19_SameInts.f k l0 l1).bind fun t207 => (some t207)
set_option maxHeartbeats 8000000 in
set_option maxRecDepth 100000 in
theorem tollbarlaw0_SameInts.calls (k : Nat) (A0 : Option Addr) (c0 : Nat) (l0 : List Int) (A1 : Option Addr) (c1 : Nat) (l1 : List Int) (r : Bool) (w : World) (hr0 : Kd.C (Kd.int .i64) w A0 l0.length l0) (hc0 : l0.length ≤ c0) (hr1 : Kd.C (Kd.int .i64) w A1 l1.length l1) (hc1 : l1.length ≤ c1) (h : tollbarlaw0_SameInts.f k l0 l1 = some r) :
  Calls Try.prog 24 #[.slice A0 l0.length c0, .slice A1 l1.length c1] w fun e w' => e = .returned (.bool r) ∧ Drawn0 w w' := by
 have HR0 := zK hr0
 have HC0 := zK hc0
 clear hr0 hc0
 have HR1 := zK hr1
 have HC1 := zK hc1
 clear hr1 hc1
 have H : ((tollbarref19_SameInts.f k l0 l1).bind fun t207 => (some t207)) = some r := h
 clear h
 replace H := yH.mp H
 obtain ⟨t207, A30, H⟩ := H
 replace H : (some t207) = some r := H
 have A3 := zK A30
 clear A30
 obtain rfl := Option.some.inj H
 go_enter Try.func24, Try.ntmps24
 go_wp2_with (first | ((with_reducible refine gate_callee (f := 57) rfl ?_); refine goesL_ (some 7) rfl rfl Try.func57 (by kernel_rfl) rfl #[.slice A0 l0.length c0, .slice A1 l1.length c1] rfl zt ?_; (with_reducible refine (tollbarref19_SameInts.calls k _ _ l0 _ _ l1 t207 _ ?side1 ?side2 ?side3 ?side4 A3.out).mono ?_); (case side1 => repeat (first | exact HR0.out | (with_reducible refine zS ?_ _) | (with_reducible refine zT ?_ _) | (with_reducible refine zU ?_))); (case side2 => exact HC0.out); (case side3 => repeat (first | exact HR1.out | (with_reducible refine zS ?_ _) | (with_reducible refine zT ?_ _) | (with_reducible refine zU ?_))); (case side4 => exact HC1.out); rintro e w' ⟨rfl, ⟨nd, rfl⟩⟩; refine ⟨_, rfl, ?_⟩))
 go_ret
 exact ⟨by first | rfl | (simp; done) | (simp [*]; done), by repeat (first | exact Drawn0.refl _ | apply Drawn0.step)⟩
def tollbarlaw0_Num.f (a0 : Int) : Option (Int) := some a0
set_option maxHeartbeats 8000000 in
set_option maxRecDepth 100000 in
theorem tollbarlaw0_Num.calls (a0 : Int) (r : Int) (w : World) (h : tollbarlaw0_Num.f a0 = some r) :
  Calls Try.prog 19 #[.int .i64 a0] w fun e w' => e = .returned (.int .i64 r) ∧ Drawn0 w w' := by
 have H : (some a0) = some r := h
 clear h
 obtain rfl := Option.some.inj H
 go_enter Try.func19, Try.ntmps19
 go_wp2
 go_ret
 exact ⟨by first | rfl | (simp; done) | (simp [*]; done), by repeat (first | exact Drawn0.refl _ | apply Drawn0.step)⟩
def tollbarlaw0_SameItems.l0 : Nat → List (S50) → List (S50) → Int → Option (Bool)
 | 0, _, _, _ => none
 | k + 1, x0, x1, x5 => if x5 < (x0.length : Int) then (if 0 ≤ x5 then (if x5 < (x1.length : Int) then (if ((!(((rd_T50 x0 x5).f0.f0) == ((rd_T50 x1 x5).f0.f0)) || (!(((rd_T50 x0 x5).f0.f1) == ((rd_T50 x1 x5).f0.f1)))) || (!(((rd_T50 x0 x5).f1) == ((rd_T50 x1 x5).f1)))) = true then (some false) else (tollbarlaw0_SameItems.l0 k x0 x1 (wrap64 (x5 + 1)))) else (none)) else (none)) else (some true)
def tollbarlaw0_SameItems.f (k : Nat) (l0 : List (S50)) (l1 : List (S50)) : Option (Bool) := if (l0.length : Int) = (l1.length : Int) then (tollbarlaw0_SameItems.l0 k l0 l1 0) else (some false)
set_option maxHeartbeats 8000000 in
set_option maxRecDepth 100000 in
theorem tollbarlaw0_SameItems.calls (k : Nat) (A0 : Option Addr) (c0 : Nat) (l0 : List (S50)) (A1 : Option Addr) (c1 : Nat) (l1 : List (S50)) (r : Bool) (w : World) (hr0 : Kd.C k50 w A0 l0.length l0) (hc0 : l0.length ≤ c0) (hr1 : Kd.C k50 w A1 l1.length l1) (hc1 : l1.length ≤ c1) (h : tollbarlaw0_SameItems.f k l0 l1 = some r) :
  Calls Try.prog 20 #[.slice A0 l0.length c0, .slice A1 l1.length c1] w fun e w' => e = .returned (.bool r) ∧ Drawn0 w w' := by
 have hu50 := Try.underlying50
 have HR0 := zK hr0
 have HC0 := zK hc0
 clear hr0 hc0
 have HR1 := zK hr1
 have HC1 := zK hc1
 clear hr1 hc1
 have H : (if (l0.length : Int) = (l1.length : Int) then (tollbarlaw0_SameItems.l0 k l0 l1 0) else (some false)) = some r := h
 clear h
 by_cases c3 : (l0.length : Int) = (l1.length : Int)
 ·rw [if_pos c3] at H
  have c3b0 : ((l0.length : Int) == (l1.length : Int)) = true := yI.mpr c3
  have c3b1 : ((l0.length : Int) != (l1.length : Int)) = false := yJ.mpr c3
  have c3b2 : (l0.length == l1.length) = true := by first | simpa using c3 | (simp at c3 ⊢; omega)
  clear c3
  have H' := zK H
  clear H
  go_enter Try.func20, Try.ntmps20
  go_wp2
  repeat (go_quiet (fail); try go_wp2)
  go_loopg [5] k (fun kq v5 w' => ∃ (x5_1 : Int), v5 = .int .i64 x5_1 ∧ Aside0 (tollbarlaw0_SameItems.l0 kq l0 l1 x5_1 = some r) ∧ Aside0 (kq ≤ k) ∧ Drawn0 w w')
  case atStart => exact ⟨(0), zz, H', ⟨Nat.le_refl _⟩, by repeat (first | exact Drawn0.refl _ | apply Drawn0.step)⟩
  case round =>
   clear H'
   try clear c1
   try clear c2
   try clear p2
   try clear c3
   try clear c3b0
   try clear c3b1
   try clear c3b2
   obtain ⟨x5_1, rfl, HA, HK1, ⟨m1, rfl⟩⟩ := hrel
   cases gk with
   | zero => exact absurd HA.out (by simp [tollbarlaw0_SameItems.l0])
   | succ k1 =>
    have H := HA.out
    clear HA
    simp only [tollbarlaw0_SameItems.l0] at H
    by_cases c4 : x5_1 < (l0.length : Int)
    ·rw [if_pos c4] at H
     have c4b0 : decide (x5_1 < (l0.length : Int)) = true := decide_eq_true c4
     clear c4
     by_cases c5 : 0 ≤ x5_1
     ·rw [if_pos c5] at H
      have c5b0 : decide (0 ≤ x5_1) = true := decide_eq_true c5
      clear c5
      by_cases c6 : x5_1 < (l1.length : Int)
      ·rw [if_pos c6] at H
       have c6b0 : decide (x5_1 < (l1.length : Int)) = true := decide_eq_true c6
       clear c6
       by_cases c7 : ((!(((rd_T50 l0 x5_1).f0.f0) == ((rd_T50 l1 x5_1).f0.f0)) || (!(((rd_T50 l0 x5_1).f0.f1) == ((rd_T50 l1 x5_1).f0.f1)))) || (!(((rd_T50 l0 x5_1).f1) == ((rd_T50 l1 x5_1).f1)))) = true
       ·rw [if_pos c7] at H
        have c7b0 : ((!(((rd_T50 l0 x5_1).f0.f0) == ((rd_T50 l1 x5_1).f0.f0)) || (!(((rd_T50 l0 x5_1).f0.f1) == ((rd_T50 l1 x5_1).f0.f1)))) || (!(((rd_T50 l0 x5_1).f1) == ((rd_T50 l1 x5_1).f1)))) = true := c7
        clear c7
        obtain rfl := Option.some.inj H
        have p213 : 0 ≤ (x5_1 : Int) := of_decide_eq_true (by first | (with_reducible assumption) | assumption)
        have q213 : x5_1 < (l0.length : Int) := of_decide_eq_true (by first | (with_reducible assumption) | assumption)
        obtain ⟨ad213, e213, hx213_0, hx213_1, hx213_2⟩ := at_T50 HR0.out x5_1 p213 q213
        cases e213
        replace p213 := eq_true p213
        replace q213 := eq_true q213
        have p214 : 0 ≤ (x5_1 : Int) := of_decide_eq_true (by first | (with_reducible assumption) | assumption)
        have q214 : x5_1 < (l1.length : Int) := of_decide_eq_true (by first | (with_reducible assumption) | assumption)
        obtain ⟨ad214, e214, hx214_0, hx214_1, hx214_2⟩ := at_T50 HR1.out x5_1 p214 q214
        cases e214
        replace p214 := eq_true p214
        replace q214 := eq_true q214
        go_wp2
        repeat (go_quiet (fail); try go_wp2)
        go_ret
        exact ⟨by first | rfl | (simp; done) | (simp [*]; done), by repeat (first | exact Drawn0.refl _ | apply Drawn0.step)⟩
       ·rw [if_neg c7] at H
        have c7b0 : ((!(((rd_T50 l0 x5_1).f0.f0) == ((rd_T50 l1 x5_1).f0.f0)) || (!(((rd_T50 l0 x5_1).f0.f1) == ((rd_T50 l1 x5_1).f0.f1)))) || (!(((rd_T50 l0 x5_1).f1) == ((rd_T50 l1 x5_1).f1)))) = false := by simpa using c7
        clear c7
        have H' := zK H
        clear H
        have p213 : 0 ≤ (x5_1 : Int) := of_decide_eq_true (by first | (with_reducible assumption) | assumption)
        have q213 : x5_1 < (l0.length : Int) := of_decide_eq_true (by first | (with_reducible assumption) | assumption)
        obtain ⟨ad213, e213, hx213_0, hx213_1, hx213_2⟩ := at_T50 HR0.out x5_1 p213 q213
        cases e213
        replace p213 := eq_true p213
        replace q213 := eq_true q213
        have p214 : 0 ≤ (x5_1 : Int) := of_decide_eq_true (by first | (with_reducible assumption) | assumption)
        have q214 : x5_1 < (l1.length : Int) := of_decide_eq_true (by first | (with_reducible assumption) | assumption)
        obtain ⟨ad214, e214, hx214_0, hx214_1, hx214_2⟩ := at_T50 HR1.out x5_1 p214 q214
        cases e214
        replace p214 := eq_true p214
        replace q214 := eq_true q214
        go_wp2
        repeat (go_quiet (fail); try go_wp2)
        go_roundg k1
        case measure => have := HK1.out; omega
        case rel => exact ⟨(wrap64 (x5_1 + 1)), zz, H', ⟨by have := HK1.out; omega⟩, by repeat (first | exact Drawn0.refl _ | apply Drawn0.step)⟩
      ·rw [if_neg c6] at H
       exact absurd H (by simp)
     ·rw [if_neg c5] at H
      exact absurd H (by simp)
    ·rw [if_neg c4] at H
     have c4b0 : decide (x5_1 < (l0.length : Int)) = false := decide_eq_false c4
     clear c4
     obtain rfl := Option.some.inj H
     go_wp2
     repeat (go_quiet (fail); try go_wp2)
     go_ret
     exact ⟨by first | rfl | (simp; done) | (simp [*]; done), by repeat (first | exact Drawn0.refl _ | apply Drawn0.step)⟩
 ·rw [if_neg c3] at H
  have c3b0 : ((l0.length : Int) == (l1.length : Int)) = false := yK.mpr c3
  have c3b1 : ((l0.length : Int) != (l1.length : Int)) = true := yL.mpr c3
  have c3b2 : (l0.length == l1.length) = false := by first | simpa using c3 | (simp at c3 ⊢; omega)
  obtain rfl := Option.some.inj H
  go_enter Try.func20, Try.ntmps20
  go_wp2
  repeat (go_quiet (fail); try go_wp2)
  go_ret
  exact ⟨by first | rfl | (simp; done) | (simp [*]; done), by repeat (first | exact Drawn0.refl _ | apply Drawn0.step)⟩
def tree_New.f  : Option ((List (S64)) × Int × List Int) := some (([] : List (S64)), (-1), ([] : List Int))
set_option maxHeartbeats 8000000 in
set_option maxRecDepth 100000 in
theorem tree_New.calls  (r1 : List (S64)) (r2 : Int) (r3 : List Int) (w : World) (h : tree_New.f  = some (r1, r2, r3)) :
  Calls Try.prog 33 #[] w fun e w' => ∃ v0_ v2_ : Value, e = .returned (.agg #[v0_, .int .i64 r2, v2_]) ∧ Kd.R k64 64 w' w.heap.size (fun _ => True) v0_ r1 ∧ Kd.R (Kd.int .i64) 3 w' w.heap.size (fun _ => True) v2_ r3 ∧ Below w.heap.size w w' := by
 have hu25 := Try.underlying25
 have HB := zK (Below.refl w.heap.size w)
 have H : (some (([] : List (S64)), (-1), ([] : List Int))) = some (r1, r2, r3) := h
 clear h
 simp only [Option.some.injEq, Prod.mk.injEq] at H
 obtain ⟨rfl, rfl, rfl⟩ := H
 go_enter Try.func33, Try.ntmps33
 go_wp2_with (first | ((with_reducible refine gate_dst (N := 0) rfl ?_); refine box_event ?hg (N := 0) ?hd (cs := #[.slice none 0 0, .int .i64 0, .slice none 0 0]) (t := 25) ?hr ?_; (case hd => rfl); (case hg => rfl); (case hr => first | (go_simp; done) | (go_simp; rfl)); intro gb215 hg w1 hbox hb; have n0_ := zK (yF (zl HB.out) hb); have n1_ := zK (hbox); have n2_ := zK ((by rw [hg]; exact (yG (zl HB.out)) : w.heap.size ≤ gb215)); have n3_ := zK ((by rw [hg]; exact (yG (zl HB.out)) : w.heap.size ≤ gb215)); clear HB; have HB := n0_; have BK215 := n1_; have GW215 := n2_; have GE215 := n3_; clear n0_ n1_ n2_ n3_; clear hb hbox hg; have hcz2_0 : w1.cell? ⟨gb215, 0, none⟩ = some (.slice none 0 0) := (zQ BK215.out 0).trans rfl; have hcz2_1 : w1.cell? ⟨gb215, 1, none⟩ = some (.int .i64 0) := (zQ BK215.out 1).trans rfl; have hcz2_2 : w1.cell? ⟨gb215, 2, none⟩ = some (.slice none 0 0) := (zQ BK215.out 2).trans rfl; have hfz2_0 := zR BK215.out 0; have hfz2_1 := zR BK215.out 1; have hfz2_2 := zR BK215.out 2))
 refine bodyPost_ret (results_cell_row rfl _ _ gb215 25 #[.slice none 0 0, .int .i64 (-1), .slice none 0 0] (0, 0) _ rfl (by (with_reducible repeat (first | refine zD ?_ _ | refine zE ?_ | refine zF ?_ _)); refine blk_put (cs := #[.slice none 0 0, .int .i64 (-1), .slice none 0 0]) ?_ 2 _ rfl; (with_reducible repeat (first | refine zD ?_ _ | refine zE ?_ | refine zF ?_ _)); refine blk_put (cs := #[.slice none 0 0, .int .i64 0, .slice none 0 0]) ?_ 1 _ rfl; (with_reducible repeat (first | refine zD ?_ _ | refine zE ?_ | refine zF ?_ _)); refine blk_put (cs := #[.slice none 0 0, .int .i64 0, .slice none 0 0]) ?_ 0 _ rfl; (with_reducible repeat (first | refine zD ?_ _ | refine zE ?_ | refine zF ?_ _)); exact BK215.out) Try.underlying25 rfl (by kernel_rfl)) rfl ?_
 exact ⟨_, _, by first | rfl | (simp [errW_none, errW_some] <;> rfl) | (simp [*, errW_none, errW_some] <;> rfl), by first | exact Kd.R_nil _ _ _ _ _ | exact Kd.N_nil _ _ _ _ _ | exact Kd.V_nil _ _ _ _ _ | exact Kd.Q_nil _ _ _ _ _ | exact Kd.S_nil _ _ _ _ _, by first | exact Kd.R_nil _ _ _ _ _ | exact Kd.N_nil _ _ _ _ _ | exact Kd.V_nil _ _ _ _ _ | exact Kd.Q_nil _ _ _ _ _ | exact Kd.S_nil _ _ _ _ _, zl HB.out⟩
def tollbarlaw17_item.f (a0 : Int) (a1 : Int) (a2 : Int) : Option (Int × Int × Int) := some (a0, a1, a2)
set_option maxHeartbeats 8000000 in
set_option maxRecDepth 100000 in
theorem tollbarlaw17_item.calls (a0 : Int) (a1 : Int) (a2 : Int) (r1 : Int) (r2 : Int) (r3 : Int) (w : World) (h : tollbarlaw17_item.f a0 a1 a2 = some (r1, r2, r3)) :
  Calls Try.prog 35 #[.int .i64 a0, .int .i64 a1, .int .i64 a2] w fun e w' => e = .returned (.agg #[.int .i64 r1, .int .i64 r2, .int .i64 r3]) ∧ Below w.heap.size w w' := by
 have hu50 := Try.underlying50
 have hu27 := Try.underlying27
 have HB := zK (Below.refl w.heap.size w)
 have H : (some (a0, a1, a2)) = some (r1, r2, r3) := h
 clear h
 simp only [Option.some.injEq, Prod.mk.injEq] at H
 obtain ⟨rfl, rfl, rfl⟩ := H
 go_enter Try.func35, Try.ntmps35
 go_wp2_with (first | ((with_reducible refine gate_dst (N := 6) rfl ?_); refine box_event ?hg (N := 6) ?hd (cs := #[.int .i64 0, .int .i64 0, .int .i64 0]) (t := 50) ?hr ?_; (case hd => rfl); (case hg => rfl); (case hr => first | (go_simp; done) | (go_simp; rfl)); intro gb216 hg w4 hbox hb; have n0_ := zK (yF (zl HB.out) hb); have n1_ := zK (hbox); have n2_ := zK ((by rw [hg]; exact (yG (zl HB.out)) : w.heap.size ≤ gb216)); have n3_ := zK ((by rw [hg]; exact (yG (zl HB.out)) : w.heap.size ≤ gb216)); clear HB; have HB := n0_; have BK216 := n1_; have GW216 := n2_; have GE216 := n3_; clear n0_ n1_ n2_ n3_; clear hb hbox hg; have hcz5_0 : w4.cell? ⟨gb216, 0, none⟩ = some (.int .i64 0) := (zQ BK216.out 0).trans rfl; have hcz5_1 : w4.cell? ⟨gb216, 1, none⟩ = some (.int .i64 0) := (zQ BK216.out 1).trans rfl; have hcz5_2 : w4.cell? ⟨gb216, 2, none⟩ = some (.int .i64 0) := (zQ BK216.out 2).trans rfl; have hfz5_0 := zR BK216.out 0; have hfz5_1 := zR BK216.out 1; have hfz5_2 := zR BK216.out 2))
 refine bodyPost_ret (results_cell_row rfl _ _ gb216 50 #[.int .i64 a0, .int .i64 a1, .int .i64 a2] (0, 0) _ rfl (by (with_reducible repeat (first | refine zD ?_ _ | refine zE ?_ | refine zF ?_ _)); refine blk_put (cs := #[.int .i64 a0, .int .i64 a1, .int .i64 0]) ?_ 2 _ rfl; (with_reducible repeat (first | refine zD ?_ _ | refine zE ?_ | refine zF ?_ _)); refine blk_put (cs := #[.int .i64 a0, .int .i64 0, .int .i64 0]) ?_ 1 _ rfl; (with_reducible repeat (first | refine zD ?_ _ | refine zE ?_ | refine zF ?_ _)); refine blk_put (cs := #[.int .i64 0, .int .i64 0, .int .i64 0]) ?_ 0 _ rfl; (with_reducible repeat (first | refine zD ?_ _ | refine zE ?_ | refine zF ?_ _)); exact BK216.out) Try.underlying50 rfl (by kernel_rfl)) rfl ?_
 exact ⟨ze, zl HB.out⟩
end Go.Proofs.Ytgkjpffbgnljeaa.QA
