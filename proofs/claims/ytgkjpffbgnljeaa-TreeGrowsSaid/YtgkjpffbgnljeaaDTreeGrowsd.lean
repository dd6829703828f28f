/- Texts of this claim laid together: TreePh, PureTreeGrows. -/
import Derived.Test.YtgkjpffbgnljeaaDTreeGrowsc
/- The law TreeGrows, plain. -/
set_option linter.unusedVariables false
set_option linter.unusedSimpArgs false
namespace Go.Proofs.Ytgkjpffbgnljeaa.Man
open Go.RowKit Go.Proofs.Ytgkjpffbgnljeaa.QT Go.Proofs.Ytgkjpffbgnljeaa.QA Go.Proofs.Ytgkjpffbgnljeaa.TreeM Go.Proofs.YtgkjpffbgnljeaaW.PrintWords Go.Proofs.YtgkjpffbgnljeaaW.PrintLast Go.Proofs.YtgkjpffbgnljeaaW.PrintMore
theorem grows_j4 (xs : List It) (os : List Int) (j k : Nat) (hj : j < 100000000000000) (hk : 2000 ≤ k) {ns : List Nd} {root : Int} {fr : List Int} {t : T} (h : IsT (cellN ns) ns.length root fr t)
  (H : QG.tollbarlaw17_TreeGrows.l0 k xs os ((items t).map toI) ((j + 1 : Nat) : Int) ns root fr = some true) : QG.tollbarlaw17_TreeGrows.j4 (k + 1) xs os ((items t).map toI) (j : Int) ns root fr = some true := by
 have hi := h.items_le
 rw [QG.tollbarlaw17_TreeGrows.j4, all_f ns fr root _ (by omega), allF_yes h]
 simp only [Option.bind_some]
 rw [if_pos trivial, sameItems_f _ _ (by simp; omega) (by simp; omega)]
 simp only [Option.bind_some]
 rw [if_pos trivial, wrapN j (by omega)]
 exact H
theorem grows_j3 (xs : List It) (os : List Int) (b : Bool) (j k : Nat) (hj : j < 100000000000000) (hk : 2000 ≤ k) {ns : List Nd} {root : Int} {fr : List Int} {t : T} (h : IsT (cellN ns) ns.length root fr t) (hb : b = true → j < os.length ∧ 0 < (items t).length)
  (H : ∀ (ns : List Nd) (root : Int) (fr : List Int) (t : T), IsT (cellN ns) ns.length root fr t → QG.tollbarlaw17_TreeGrows.l0 k xs os ((items t).map toI) ((j + 1 : Nat) : Int) ns root fr = some true) :
  QG.tollbarlaw17_TreeGrows.j3 (k + 2) xs os ((items t).map toI) (j : Int) b ns root fr = some true := by
 have hi := h.items_le
 rw [QG.tollbarlaw17_TreeGrows.j3]
 cases b with
 | false =>
  rw [if_neg (by decide)]
  exact grows_j4 xs os j k hj hk h (H ns root fr t h)
 | true =>
  obtain ⟨h1, h2⟩ := hb rfl
  have hr := and_range (rd os (j : Int)) 31 (by decide)
  generalize hw : Go.bits .and .i64 (rd os (j : Int)) 31 = w
  have hr' : 0 ≤ w ∧ w ≤ 31 := by rw [← hw]; exact hr
  have hl : (((items t).map toI).length : Int) = ((items t).length : Int) := by rw [List.length_map]
  rw [if_pos rfl, if_pos (by omega), if_pos (by omega), hl, if_neg (by omega)]
  have e0 : 0 ≤ Int.tmod w ((items t).length : Int) := Int.tmod_nonneg _ hr'.1
  have e1 : Int.tmod w ((items t).length : Int) < ((items t).length : Int) := Int.tmod_lt_of_pos _ (by omega)
  generalize Int.tmod w ((items t).length : Int) = i at e0 e1
  obtain ⟨i, rfl⟩ : ∃ m : Nat, i = (m : Int) := ⟨i.toNat, by omega⟩
  have hin : i < (items t).length := by omega
  rw [if_pos (by omega), if_pos (by omega), rdI_get _ i hin]
  have hm : (items t)[i] ∈ items t := List.getElem_mem hin
  obtain ⟨n', r', f', d1, ht'⟩ := del_step h hm
  rw [show tree_Delete.f ns root fr (toI (items t)[i]).f0.f0 (toI (items t)[i]).f0.f1 (toI (items t)[i]).f1 = some (n', r', f', 0) from delf_of h.free_le d1]
  simp only [Option.bind_some, tollbarlaw0_Num.f]
  rw [if_pos trivial, show tollbarref17_Without.f (k + 1) ((items t).map toI) (toI (items t)[i]).f0.f0 (toI (items t)[i]).f0.f1 (toI (items t)[i]).f1 = _ from without_f (items t) (items t)[i] (k + 1) (by omega) (by omega)]
  simp only [Option.bind_some]
  rw [← items_drop t _ h.row hm]
  exact grows_j4 xs os j k hj hk ht' (H _ _ _ _ ht')
theorem grows_j2 (xs : List It) (os : List Int) (j k : Nat) (hj : j < 100000000000000) (hk : 2000 ≤ k) {ns : List Nd} {root : Int} {fr : List Int} {t : T} (h : IsT (cellN ns) ns.length root fr t)
  (H : ∀ (ns : List Nd) (root : Int) (fr : List Int) (t : T), IsT (cellN ns) ns.length root fr t → QG.tollbarlaw17_TreeGrows.l0 k xs os ((items t).map toI) ((j + 1 : Nat) : Int) ns root fr = some true) :
  QG.tollbarlaw17_TreeGrows.j2 (k + 3) xs os ((items t).map toI) (j : Int) ns root fr = some true := by
 rw [QG.tollbarlaw17_TreeGrows.j2]
 by_cases hc : j < os.length
 ·rw [if_pos (by omega)]
  refine grows_j3 xs os _ j k hj hk h (fun g => ⟨hc, ?_⟩) H
  have := of_decide_eq_true g
  rw [List.length_map] at this
  omega
 ·rw [if_neg (by omega)]
  exact grows_j3 xs os _ j k hj hk h (fun g => by cases g) H
theorem grows_l0 (xs : List It) (os : List Int) (hx : xs.length < 100000000000000) : ∀ (n j k : Nat) (ns : List Nd) (root : Int) (fr : List Int) (t : T), n + j = xs.length → IsT (cellN ns) ns.length root fr t → 5 * n + 3000 ≤ k →
  QG.tollbarlaw17_TreeGrows.l0 k xs os ((items t).map toI) (j : Int) ns root fr = some true := by
 intro n
 induction n with
 | zero =>
  intro j k ns root fr t hj ht hk
  obtain ⟨k, rfl⟩ : ∃ i, k = i + 1 := ⟨k - 1, by omega⟩
  rw [QG.tollbarlaw17_TreeGrows.l0, if_neg (by omega)]
  rfl
 | succ n ih =>
  intro j k ns root fr t hj ht hk
  obtain ⟨k, rfl⟩ : ∃ i, k = i + 5 := ⟨k - 5, by omega⟩
  have H : ∀ (ns : List Nd) (root : Int) (fr : List Int) (t : T), IsT (cellN ns) ns.length root fr t → QG.tollbarlaw17_TreeGrows.l0 k xs os ((items t).map toI) ((j + 1 : Nat) : Int) ns root fr = some true := fun ns root fr t h => ih (j + 1) k ns root fr t (by omega) h (by omega)
  have hi := ht.items_le
  have hf := ht.free_le
  rw [QG.tollbarlaw17_TreeGrows.l0, if_pos (by omega), if_pos (by omega)]
  generalize hx : ofI (rd_T50 xs (j : Int)) = x
  have step : ∀ w : Int, ((w = 0 ∧ itmayF x = true ∧ x ∉ items t ∧ ¬ 32 ≤ (items t).length) ∨ (w ≠ 0 ∧ insF ns root fr x = (([], 0, []), w))) → QG.tollbarlaw17_TreeGrows.j1 (k + 4) xs os ((items t).map toI) (j : Int) w ns root fr = some true := by
   intro w hw
   rw [QG.tollbarlaw17_TreeGrows.j1, if_pos (by omega), if_pos (by omega)]
   rcases hw with ⟨rfl, a, b, c⟩ | ⟨a, b⟩
   ·obtain ⟨n', r', f', e1, e2⟩ := ins_step ht a b c
    rw [← hx] at e1
    rw [show tree_Insert.f ns root fr (rd_T50 xs (j : Int)).f0.f0 (rd_T50 xs (j : Int)).f0.f1 (rd_T50 xs (j : Int)).f1 = _ from insf_of hf e1]
    simp only [Option.bind_some, tollbarlaw0_Num.f]
    have ew : tollbarref17_With.f (k + 3) ((items t).map toI) (rd_T50 xs (j : Int)).f0.f0 (rd_T50 xs (j : Int)).f0.f1 (rd_T50 xs (j : Int)).f1 = _ := with_f (items t) (ofI (rd_T50 xs (j : Int))) (k + 3) (by omega) (by omega)
    rw [if_pos trivial, if_pos trivial, ew, hx]
    simp only [Option.bind_some]
    rw [← ins_items (p := placeOf ns.length fr) ht.row]
    exact grows_j2 xs os j k (by omega) (by omega) e2 H
   ·rw [← hx] at b
    rw [show tree_Insert.f ns root fr (rd_T50 xs (j : Int)).f0.f0 (rd_T50 xs (j : Int)).f0.f1 (rd_T50 xs (j : Int)).f1 = _ from insf_of hf b]
    simp only [Option.bind_some, tollbarlaw0_Num.f]
    rw [if_pos trivial, if_neg a]
    exact grows_j2 xs os j k (by omega) (by omega) ht H
  have em : tollbarref17_ItemMay.f (rd_T50 xs (j : Int)).f0.f0 (rd_T50 xs (j : Int)).f0.f1 (rd_T50 xs (j : Int)).f1 = some (itmayF x) := by rw [← hx]; exact refItemMay_f _ _ _
  have et : tollbarref17_There.f (k + 4) ((items t).map toI) (rd_T50 xs (j : Int)).f0.f0 (rd_T50 xs (j : Int)).f0.f1 (rd_T50 xs (j : Int)).f1 = some (decide (x ∈ items t)) := by rw [← hx]; exact there_f (items t) (ofI _) (k + 4) (by omega) (by omega)
  rw [em]
  simp only [Option.bind_some]
  by_cases hmay : itmayF x = true
  ·rw [if_pos hmay, et]
   simp only [Option.bind_some]
   by_cases hin : x ∈ items t
   ·rw [if_pos (decide_eq_true hin)]
    exact step _ (.inr ⟨by decide, insF_there ht hmay hin⟩)
   ·rw [if_neg (by rw [decide_eq_true_eq]; exact hin), List.length_map]
    by_cases h32 : (items t).length = 32
    ·rw [if_pos (by omega)]
     exact step _ (.inr ⟨by decide, insF_full ht hmay hin (by omega)⟩)
    ·rw [if_neg (by omega)]
     exact step _ (.inl ⟨rfl, hmay, hin, by omega⟩)
  ·rw [if_neg hmay]
   exact step _ (.inr ⟨by decide, insF_no (fun g => hmay g.2)⟩)
theorem treeGrows_f (xs : List It) (os : List Int) (hx : xs.length < 100000000000000) : ∃ k, QG.tollbarlaw17_TreeGrows.f k xs os = some true := by
 obtain ⟨k, hk⟩ : ∃ k, k = 5 * xs.length + 3000 := ⟨_, rfl⟩
 refine ⟨k, ?_⟩
 unfold QG.tollbarlaw17_TreeGrows.f tree_New.f
 simp only [Option.bind_some]
 exact grows_l0 xs os hx xs.length 0 k [] (-1) [] .nil (by omega) isT_new (by omega)
end Go.Proofs.Ytgkjpffbgnljeaa.Man
/- The plain law TreeGrows, as its row asks for it. -/
set_option linter.unusedVariables false
namespace Go.Proofs.Ytgkjpffbgnljeaa.Pure
open Go.RowKit Go.Proofs.Ytgkjpffbgnljeaa.QT Go.Proofs.Ytgkjpffbgnljeaa.QG Go.Proofs.Ytgkjpffbgnljeaa.Man Go.Proofs.Ytgkjpffbgnljeaa.OpsTreeGrows
theorem TreeGrows (x0 : (List S50)) (h0 : (fun xs : List S50 => (∀ x ∈ xs, I50 x) ∧ xs.length * 24 ≤ 140737488351232) x0) (x1 : (List Int)) (h1 : (fun xs : List Int => (∀ x ∈ xs, (fun n : Int => (Lit.int .i64 n).wf = true) x) ∧ xs.length * 8 ≤ 140737488351232) x1) : ∃ k, tollbarlaw17_TreeGrows.f k x0 x1 = some true :=
 treeGrows_f x0 x1 (by have := h0.2; omega)
end Go.Proofs.Ytgkjpffbgnljeaa.Pure
