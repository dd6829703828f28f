/- The plain laws AskBack, AskForms, AskApart. -/
import Derived.Test.YtikblicmnfnomaaQD
import Derived.Test.YtikblicmnfnomaaAskL
import Derived.Test.YtikblicmnfnomaaStrQ
set_option linter.unusedVariables false
namespace Go.Proofs.Ytikblicmnfnomaa.Pure
open Go.RowKit Go.Proofs.Ytikblicmnfnomaa.Man Go.Proofs.Ytikblicmnfnomaa.QD Go.Proofs.Ytikblicmnfnomaa.AskL Go.Proofs.YtikblicmnfnomaaW.PrintWords

theorem awakeD : tollbarlaw22_awake.f = some true := by decide +kernel
theorem numD (x : Int) : tollbarlaw0_Num.f x = some x := rfl

theorem askBack (a b k i s d r : Int) : tollbarlaw22_AskBack.f a b k i s d r = some true := by
  unfold tollbarlaw22_AskBack.f
  by_cases h : mayQ a b k i s d r = true
  · have hl := nums_len k (qcells a b k i s d r)
    have hle := WordL.encs_le (numsQ k (qcells a b k i s d r))
    have hge := WordL.encs_ge (numsQ k (qcells a b k i s d r))
    have h1 : 1 ≤ (numsQ k (qcells a b k i s d r)).length := by simp [numsQ]
    have hsz : (bytesQ a b k i s d r).size = (WordL.encs (numsQ k (qcells a b k i s d r))).length := by
      show (WordL.encs (numsQ k (qcells a b k i s d r))).toArray.size = _
      simp
    have p1 : ((bytesQ a b k i s d r).size : Int) ≤ 64 := by omega
    have p2 : ((bytesQ a b k i s d r).size : Int) > 0 := by omega
    simp only [write_may h, Option.bind_some, numD, if_true, read_enc h, awakeD, BEq.rfl, Bool.and_self, p1, p2, decide_true]
  · rw [write_not h, Option.bind_some, numD, Option.bind_some, if_neg (by decide)]

theorem askApart (a b k i s d r a' b' k' i' s' d' r' : Int) : tollbarlaw22_AskApart.f a b k i s d r a' b' k' i' s' d' r' = some true := by
  unfold tollbarlaw22_AskApart.f
  by_cases h : mayQ a b k i s d r = true
  case neg =>
    rw [write_not h, Option.bind_some]
    by_cases h' : mayQ a' b' k' i' s' d' r' = true
    · rw [write_may h', Option.bind_some, numD, Option.bind_some, if_neg (by decide)]
    · rw [write_not h', Option.bind_some, numD, Option.bind_some, if_neg (by decide)]
  by_cases h' : mayQ a' b' k' i' s' d' r' = true
  case neg =>
    simp only [write_may h, write_not h', Option.bind_some, numD, if_true]
    rw [if_neg (by decide)]
  simp only [write_may h, write_may h', Option.bind_some, numD, if_true, awakeD]
  congr 1
  by_cases e : bytesQ a b k i s d r = bytesQ a' b' k' i' s' d' r'
  · obtain ⟨rfl, rfl, rfl, rfl, rfl, rfl, rfl⟩ := bytes_inj h h' e
    simp
  · have e2 : ¬ ((bytesQ a b k i s d r).toList = (bytesQ a' b' k' i' s' d' r').toList) := fun q => e (by
      apply ByteArray.ext
      apply Array.toList_inj.1
      rwa [ByteArray.toList_eq, ByteArray.toList_eq] at q)
    have e3 : ((bytesQ a b k i s d r).toList == (bytesQ a' b' k' i' s' d' r').toList) = false := by simpa using e2
    rw [e3]
    have e4 : ((a == a' && (b == b')) && (k == k' && (i == i' && (s == s' && (d == d' && (r == r')))))) = false := by
      rw [← Bool.not_eq_true]
      intro q
      simp only [Bool.and_eq_true, beq_iff_eq] at q
      obtain ⟨⟨rfl, rfl⟩, rfl, rfl, rfl, rfl, rfl⟩ := q
      exact e rfl
    rw [e4]
    rfl

theorem data_ext {s t : ByteArray} (h : s.data.toList = t.data.toList) : s = t := by
  apply ByteArray.ext
  exact Array.toList_inj.1 h
theorem j0_step (k : Nat) (x0 : ByteArray) (x10 : Int) (a b c d e f g : Int) : tollbarlaw22_AskForms.j0 (k + 1) x0 x10 false a b c d e f g = (if 0 ≤ (wrap64 ((x0.size : Int) - 1)) then (if (wrap64 ((x0.size : Int) - 1)) ≤ (x0.size : Int) then ((ask_Read.f (x0.extract 0 ((wrap64 ((x0.size : Int) - 1)) : Int).toNat)).bind fun bt167 => ((tollbarlaw22_awake.f).bind fun t176 => (if t176 = true then ((ask_May.f a b c d e f g).bind fun t177 => (if t177 = true then ((tollbarlaw0_Num.f x10).bind fun t178 => (if t178 = 2200 then ((tollbarlaw0_Num.f bt167.2.2.2.2.2.2.2).bind fun t179 => (some (t179 == 2200))) else (some false))) else (some false))) else (some false)))) else (none)) else (none)) := by
  rw [tollbarlaw22_AskForms.j0, if_neg (by decide)]

theorem AskForms (x0 : ByteArray) (h0 : x0.size ≤ 140737488351232) (x1 : Int) (h1 : (Lit.int .i64 x1).wf = true) (hb : x0.size + 1 + 1 ≤ 1048576) : ∃ k, tollbarlaw22_AskForms.f k x0 x1 = some true := by
  refine ⟨1, ?_⟩
  obtain ⟨a, b, k, i, s, d, r, e, hr, hor⟩ := read_ok x0 (by omega)
  unfold tollbarlaw22_AskForms.f
  simp only [hr, Option.bind_some, numD]
  rcases hor with ⟨rfl, hm, ht⟩ | rfl
  case inr => rw [if_neg (by decide)]
  obtain ⟨c, hc⟩ : ∃ c, strOfNums [(Go.bits .and .i64 x1 255) % 256] = c := ⟨_, rfl⟩
  have hc1 : c.data.toList.length = 1 := by
    rw [← hc]
    rfl
  have hcs : c.size = 1 := by rw [← data_length]; exact hc1
  rw [if_pos rfl]
  have hge := WordL.encs_ge (numsQ k (qcells a b k i s d r))
  have hn1 : 1 ≤ (numsQ k (qcells a b k i s d r)).length := by simp [numsQ]
  have hsz : x0.size = (WordL.encs (numsQ k (qcells a b k i s d r))).length := by
    rw [ht]
    show (WordL.encs (numsQ k (qcells a b k i s d r))).toArray.size = _
    simp
  have hpos : 1 ≤ x0.size := by omega
  obtain ⟨a2, b2, k2, i2, s2, d2, r2, e2, hr2, hor2⟩ := read_ok (x0 ++ c) (by rw [ByteArray.size_append]; omega)
  have he2 : e2 = 2200 := by
    rcases hor2 with ⟨_, hm2, ht2⟩ | h
    case inr => exact h
    exfalso
    have hz := bytes_apart hm hm2 c.data.toList (by
      rw [← ht, ← ht2, ByteArray.data_append, Array.toList_append])
    rw [hz] at hc1
    cases hc1
  obtain ⟨t, hct⟩ : ∃ t, x0.extract 0 (x0.size - 1) = t := ⟨_, rfl⟩
  have htl : t.data.toList = x0.data.toList.take (x0.size - 1) := by
    rw [← hct]
    rw [ByteArray.data_extract, Array.toList_extract]
    simp [List.extract]
  obtain ⟨a3, b3, k3, i3, s3, d3, r3, e3, hr3, hor3⟩ := read_ok t (by
    rw [← hct, ByteArray.size_extract]
    omega)
  have he3 : e3 = 2200 := by
    rcases hor3 with ⟨_, hm3, ht3⟩ | h
    case inr => exact h
    exfalso
    have hz := bytes_apart hm3 hm (x0.data.toList.drop (x0.size - 1)) (by
      rw [← ht, ← ht3, htl, List.take_append_drop])
    have hl := congrArg List.length hz
    rw [List.length_drop, data_length] at hl
    simp at hl
    omega
  have hw : ask_Write.f a b k i s d r = some (x0, 0) := by rw [write_may hm, ← ht]
  simp only [hc, hw, Option.bind_some, hr2, if_true]
  rw [if_pos (by omega)]
  have hsb : ((x0.size : Int) == 0) = false := by
    rw [beq_eq_false_iff_ne]
    omega
  have hwr : wrap64 ((x0.size : Int) - 1) = ((x0.size - 1 : Nat) : Int) := by
    unfold wrap64
    omega
  have hmay : ask_May.f a b k i s d r = some true := by rw [ask_May.f, hm]
  rw [hsb, j0_step, hwr, if_pos (by omega), if_pos (by omega), Int.toNat_natCast, hct, hr3, Option.bind_some, awakeD, Option.bind_some, if_pos rfl, hmay, Option.bind_some, if_pos rfl, numD, Option.bind_some, if_pos he2, numD, Option.bind_some, he3]
  rfl

theorem AskBack (x0 : S46) {p : Prop} (h0 : p) : tollbarlaw22_AskBack.f x0.f0.f0 x0.f0.f1 x0.f1 x0.f2 x0.f3 x0.f4 x0.f5 = some true := askBack _ _ _ _ _ _ _
theorem AskApart (x0 : S46) {p : Prop} (h0 : p) (x1 : S46) {q : Prop} (h1 : q) : tollbarlaw22_AskApart.f x0.f0.f0 x0.f0.f1 x0.f1 x0.f2 x0.f3 x0.f4 x0.f5 x1.f0.f0 x1.f0.f1 x1.f1 x1.f2 x1.f3 x1.f4 x1.f5 = some true := askApart _ _ _ _ _ _ _ _ _ _ _ _ _ _
end Go.Proofs.Ytikblicmnfnomaa.Pure
