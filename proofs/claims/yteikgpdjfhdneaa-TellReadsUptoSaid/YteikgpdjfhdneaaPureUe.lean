/- The plain law of TellReads. -/
import Derived.Test.YteikgpdjfhdneaaTellXW
import Derived.Test.YteikgpdjfhdneaaTellYr
set_option linter.unusedVariables false
set_option linter.unusedSimpArgs false
namespace Go.Proofs.Yteikgpdjfhdneaa.Pure
open Go.RowKit Go.Proofs.Yteikgpdjfhdneaa.QT Go.Proofs.Yteikgpdjfhdneaa.Man Go.Proofs.Yteikgpdjfhdneaa.QH Go.Proofs.Yteikgpdjfhdneaa.QK Go.Proofs.Yteikgpdjfhdneaa.QL Go.Proofs.Yteikgpdjfhdneaa.QG Go.Proofs.Yteikgpdjfhdneaa.TellU Go.Proofs.Yteikgpdjfhdneaa.WordM Go.Proofs.Yteikgpdjfhdneaa.WordL Go.Proofs.YteikgpdjfhdneaaW.PrintWords Go.Proofs.YteikgpdjfhdneaaW.PrintLast Go.Proofs.YteikgpdjfhdneaaW.PrintMore
theorem stepP_enc (p : Pth) (zs : List Int) : stepP (pathN p ++ zs) = some (p, zs) := by
  obtain ⟨r, ls⟩ := p
  unfold stepP pathN
  simp only [List.cons_append]
  have h0 : rd (r :: (ls.length : Int) :: (ls ++ zs)) 0 = r := rfl
  have h1 : rd (r :: (ls.length : Int) :: (ls ++ zs)) 1 = (ls.length : Int) := rfl
  rw [h0, h1, if_pos ⟨by simp, by omega, by simp only [List.drop_succ_cons, List.drop_zero, List.length_append]; omega⟩]
  simp
theorem itP_enc (ps : List Pth) (zs : List Int) : ∀ k, k ≤ ps.length → itP (ps.flatMap pathN ++ zs) k = some (ps.take k, (ps.drop k).flatMap pathN ++ zs)
  | 0, _ => by simp [itP]
  | k + 1, h => by
    have hk : k < ps.length := by omega
    unfold itP
    rw [itP_enc ps zs k (by omega), Option.bind_some]
    simp only
    rw [List.drop_eq_getElem_cons hk, List.flatMap_cons, List.append_assoc, stepP_enc, Option.bind_some, List.take_succ_eq_append_getElem hk]
theorem pathsQ_enc (ps : List Pth) (zs : List Int) : pathsQ (ps.flatMap pathN ++ zs) (ps.length : Int) = some (ps, zs) := by
  have hg := flat_ge ps
  unfold pathsQ
  rw [if_neg (by rw [List.length_append]; omega), Int.toNat_natCast, itP_enc ps zs _ (Nat.le_refl _)]
  simp
theorem stepG_enc (p : Pce) (zs : List Int) : Man.stepG (pieceN p ++ zs) = some (p, zs) := by
  obtain ⟨⟨a, b⟩, qs⟩ := p
  unfold Man.stepG pieceN
  simp only [List.cons_append]
  have h0 : rd (a :: b :: (qs.length : Int) :: (qs.flatMap pathN ++ zs)) 0 = a := rfl
  have h1 : rd (a :: b :: (qs.length : Int) :: (qs.flatMap pathN ++ zs)) 1 = b := rfl
  have h2 : rd (a :: b :: (qs.length : Int) :: (qs.flatMap pathN ++ zs)) 2 = (qs.length : Int) := rfl
  rw [h0, h1, h2, if_pos (by simp)]
  simp only [List.drop_succ_cons, List.drop_zero]
  rw [pathsQ_enc, Option.bind_some]
theorem itG_enc (ps : List Pce) (zs : List Int) : ∀ k, k ≤ ps.length → itG (ps.flatMap pieceN ++ zs) k = some (ps.take k, (ps.drop k).flatMap pieceN ++ zs)
  | 0, _ => by simp [itG]
  | k + 1, h => by
    have hk : k < ps.length := by omega
    unfold itG
    rw [itG_enc ps zs k (by omega), Option.bind_some]
    simp only
    rw [List.drop_eq_getElem_cons hk, List.flatMap_cons, List.append_assoc, stepG_enc, Option.bind_some, List.take_succ_eq_append_getElem hk]
theorem tellQ_enc {r : Rp} (h : tellF r = true) : tellQ (tellN r) = some r := by
  have hp := plain_may h
  have hk0 : rd (tellN r) 0 = r.kind := rfl
  unfold tellQ
  rw [hk0]
  unfold tellN
  by_cases h1 : r.kind = 1
  · simp only [h1, if_true]
    rw [if_pos (by simp)]
    conv => rhs; rw [← hp]
    simp [plain, h1, rd]
  by_cases h2 : r.kind = 2
  · simp only [h2, if_true, Int.reduceEq, if_false, List.drop_succ_cons, List.drop_zero]
    have hg := flatQ_ge r.ps
    have hgq : grantQ (r.id :: r.rate :: r.fr :: r.to_ :: (r.ps.length : Int) :: r.ps.flatMap pieceN) = some (⟨r.fr, r.to_, 0, [], 2, 0, r.id, r.rate, 0, r.ps⟩, []) := by
      unfold grantQ
      have e0 : rd (r.id :: r.rate :: r.fr :: r.to_ :: (r.ps.length : Int) :: r.ps.flatMap pieceN) 0 = r.id := rfl
      have e1 : rd (r.id :: r.rate :: r.fr :: r.to_ :: (r.ps.length : Int) :: r.ps.flatMap pieceN) 1 = r.rate := rfl
      have e2 : rd (r.id :: r.rate :: r.fr :: r.to_ :: (r.ps.length : Int) :: r.ps.flatMap pieceN) 2 = r.fr := rfl
      have e3 : rd (r.id :: r.rate :: r.fr :: r.to_ :: (r.ps.length : Int) :: r.ps.flatMap pieceN) 3 = r.to_ := rfl
      have e4 : rd (r.id :: r.rate :: r.fr :: r.to_ :: (r.ps.length : Int) :: r.ps.flatMap pieceN) 4 = (r.ps.length : Int) := rfl
      have hi := itG_enc r.ps [] r.ps.length (Nat.le_refl _)
      rw [List.append_nil, List.take_length, List.drop_length] at hi
      rw [e0, e1, e2, e3, e4]
      simp only [List.drop_succ_cons, List.drop_zero]
      rw [if_pos ⟨by simp, by omega⟩, Int.toNat_natCast, hi, Option.bind_some]
      rfl
    rw [hgq, Option.bind_some]
    simp only [if_true]
    conv => rhs; rw [← hp]
    simp [plain, h2]
  by_cases h3 : r.kind = 3
  · simp only [h3, if_true, Int.reduceEq, if_false]
    have e1 : rd (3 :: r.at_ :: (r.vs.length : Int) :: r.vs) 1 = r.at_ := rfl
    have e2 : rd (3 :: r.at_ :: (r.vs.length : Int) :: r.vs) 2 = (r.vs.length : Int) := rfl
    rw [e1, e2, if_pos ⟨by simp, by simp only [List.length_cons]; omega⟩]
    conv => rhs; rw [← hp]
    simp [plain, h3]
  by_cases h5 : r.kind = 5
  · simp only [h5, if_true, Int.reduceEq, if_false]
    rw [if_pos (by simp)]
    conv => rhs; rw [← hp]
    simp [plain, h5, rd]
  have h4 : r.kind = 4 := by
    unfold tellF kindF at h
    rw [Bool.and_eq_true] at h
    have := h.2
    simp only [h1, h2, h3, h5, if_false, decide_eq_true_eq] at this
    exact this
  simp only [h4, if_true, Int.reduceEq, if_false]
  rw [if_pos (by simp)]
  conv => rhs; rw [← hp]
  simp [plain, h4]
theorem stepP_dec {xs : List Int} {p : Pth} {r : List Int} (h : stepP xs = some (p, r)) : xs = pathN p ++ r := by
  unfold stepP at h
  split at h
  case isFalse => cases h
  case isTrue hc =>
    injection h with h
    simp only [Prod.mk.injEq] at h
    obtain ⟨h1, h2⟩ := h
    subst h1
    subst h2
    match xs, hc with
    | [], hc => simp at hc
    | [_], hc => simp at hc
    | x :: y :: l, hc =>
      have e0 : rd (x :: y :: l) 0 = x := rfl
      have e1 : rd (x :: y :: l) 1 = y := rfl
      rw [e1] at hc
      rw [e0, e1]
      simp only [List.drop_succ_cons, List.drop_zero] at hc ⊢
      have hl : ((l.take y.toNat).length : Int) = y := by rw [List.length_take]; omega
      unfold pathN
      simp only [hl, List.cons_append, List.take_append_drop]
theorem itP_dec (xs : List Int) : ∀ (k : Nat) (ps : List Pth) (r : List Int), itP xs k = some (ps, r) → xs = ps.flatMap pathN ++ r
  | 0, ps, r, h => by
    injection h with h
    simp only [Prod.mk.injEq] at h
    rw [← h.1, ← h.2]
    rfl
  | k + 1, ps, r, h => by
    unfold itP at h
    cases hk : itP xs k with
    | none => rw [hk] at h; cases h
    | some p =>
      obtain ⟨ps0, r0⟩ := p
      rw [hk, Option.bind_some] at h
      have ih := itP_dec xs k ps0 r0 hk
      cases hs : stepP r0 with
      | none => simp only [hs] at h; cases h
      | some q =>
        obtain ⟨q1, q2⟩ := q
        simp only [hs, Option.bind_some, Option.some.injEq, Prod.mk.injEq] at h
        have hd := stepP_dec hs
        rw [← h.1, ← h.2, ih, hd]
        simp
theorem pathsQ_dec {xs : List Int} {kk : Int} {ps : List Pth} {r : List Int} (h0 : 0 ≤ kk) (h : pathsQ xs kk = some (ps, r)) : xs = ps.flatMap pathN ++ r ∧ (ps.length : Int) = kk := by
  unfold pathsQ at h
  split at h
  · cases h
  · have := (itP_len xs _ ps r h).1
    exact ⟨itP_dec xs _ ps r h, by omega⟩
theorem stepG_dec {xs : List Int} {p : Pce} {r : List Int} (hn : nonneg xs) (h : Man.stepG xs = some (p, r)) : xs = pieceN p ++ r := by
  unfold Man.stepG at h
  split at h
  case isFalse => cases h
  case isTrue hc =>
    match xs, hc, hn, h with
    | [], hc, _, _ => simp at hc
    | [_], hc, _, _ => simp at hc
    | [_, _], hc, _, _ => simp at hc
    | x :: y :: z :: l, hc, hn, h =>
      have e2 : rd (x :: y :: z :: l) 2 = z := rfl
      have hz : 0 ≤ z := hn z (by simp)
      rw [e2] at h
      simp only [List.drop_succ_cons, List.drop_zero] at h
      cases hq : pathsQ l z with
      | none => rw [hq] at h; cases h
      | some q =>
        obtain ⟨q1, q2⟩ := q
        rw [hq, Option.bind_some] at h
        injection h with h
        simp only [Prod.mk.injEq] at h
        obtain ⟨h1, h2⟩ := h
        obtain ⟨d1, d2⟩ := pathsQ_dec hz hq
        subst h1
        subst h2
        unfold pieceN
        simp only [List.cons_append]
        rw [d2, ← d1]
        rfl
theorem itG_dec (xs : List Int) (hn : nonneg xs) : ∀ (k : Nat) (ps : List Pce) (r : List Int), itG xs k = some (ps, r) → xs = ps.flatMap pieceN ++ r
  | 0, ps, r, h => by
    injection h with h
    simp only [Prod.mk.injEq] at h
    rw [← h.1, ← h.2]
    rfl
  | k + 1, ps, r, h => by
    unfold itG at h
    cases hk : itG xs k with
    | none => rw [hk] at h; cases h
    | some p =>
      obtain ⟨ps0, r0⟩ := p
      rw [hk, Option.bind_some] at h
      have ih := itG_dec xs hn k ps0 r0 hk
      cases hs : Man.stepG r0 with
      | none => simp only [hs] at h; cases h
      | some q =>
        obtain ⟨q1, q2⟩ := q
        simp only [hs, Option.bind_some, Option.some.injEq, Prod.mk.injEq] at h
        have hd := stepG_dec (nonneg_right hn ih) hs
        rw [← h.1, ← h.2, ih, hd]
        simp
theorem tellQ_dec {xs : List Int} {r : Rp} (hn : nonneg xs) (hpos : 0 < xs.length) (h : tellQ xs = some r) : xs = tellN r ∧ plain r = r := by
  obtain ⟨x, l, rfl⟩ : ∃ x l, xs = x :: l := by
    cases xs with
    | nil => simp at hpos
    | cons x l => exact ⟨x, l, rfl⟩
  have e0 : rd (x :: l) 0 = x := rfl
  unfold tellQ at h
  rw [e0] at h
  by_cases h1 : x = 1
  · subst h1
    rw [if_pos rfl] at h
    split at h
    case isFalse => cases h
    case isTrue hc =>
      injection h with h
      subst h
      match l, hc with
      | [], hc => simp at hc
      | [y], hc => exact ⟨rfl, rfl⟩
      | y :: z :: m, hc => simp at hc; omega
  rw [if_neg h1] at h
  by_cases h2 : x = 2
  · subst h2
    rw [if_pos rfl] at h
    simp only [List.drop_succ_cons, List.drop_zero] at h
    cases hg : grantQ l with
    | none => rw [hg] at h; cases h
    | some p =>
      obtain ⟨q, left⟩ := p
      rw [hg, Option.bind_some] at h
      split at h
      case isFalse => cases h
      case isTrue hl =>
        injection h with h
        subst h
        unfold grantQ at hg
        split at hg
        case isFalse => cases hg
        case isTrue hc =>
          match l, hc, hg, hn with
          | [], hc, _, _ => simp at hc
          | [_], hc, _, _ => simp at hc
          | [_, _], hc, _, _ => simp at hc
          | [_, _, _], hc, _, _ => simp at hc
          | [_, _, _, _], hc, _, _ => simp at hc
          | a0 :: a1 :: a2 :: a3 :: a4 :: m, hc, hg, hn =>
            have e4 : rd (a0 :: a1 :: a2 :: a3 :: a4 :: m) 4 = a4 := rfl
            have e3 : rd (a0 :: a1 :: a2 :: a3 :: a4 :: m) 3 = a3 := rfl
            have e2 : rd (a0 :: a1 :: a2 :: a3 :: a4 :: m) 2 = a2 := rfl
            have e1 : rd (a0 :: a1 :: a2 :: a3 :: a4 :: m) 1 = a1 := rfl
            have e0 : rd (a0 :: a1 :: a2 :: a3 :: a4 :: m) 0 = a0 := rfl
            rw [e0, e1, e2, e3, e4] at hg
            simp only [List.drop_succ_cons, List.drop_zero] at hg
            have hz : 0 ≤ a4 := hn a4 (by simp)
            have hnm : nonneg m := fun y hy => hn y (by simp [hy])
            cases hi : itG m a4.toNat with
            | none => rw [hi] at hg; cases hg
            | some s =>
              obtain ⟨s1, s2⟩ := s
              rw [hi, Option.bind_some] at hg
              injection hg with hg
              simp only [Prod.mk.injEq] at hg
              obtain ⟨g1, g2⟩ := hg
              have hd := itG_dec m hnm _ s1 s2 hi
              have hlen := (itG_len m _ s1 s2 hi).1
              rw [← g1]
              dsimp only at hl
              rw [hl] at g2
              rw [g2, List.append_nil] at hd
              refine ⟨?_, rfl⟩
              have h4 : ((s1.length : Nat) : Int) = a4 := by omega
              simp only [tellN, if_true, Int.reduceEq, if_false]
              rw [h4, ← hd]
  rw [if_neg h2] at h
  by_cases h3 : x = 3
  · subst h3
    rw [if_pos rfl] at h
    split at h
    case isFalse => cases h
    case isTrue hc =>
      injection h with h
      subst h
      match l, hc with
      | [], hc => simp at hc
      | [_], hc => simp at hc
      | y :: z :: m, hc =>
        have e2 : rd (3 :: y :: z :: m) 2 = z := rfl
        have e1 : rd (3 :: y :: z :: m) 1 = y := rfl
        rw [e2] at hc
        rw [e1]
        refine ⟨?_, rfl⟩
        have hz : ((m.length : Nat) : Int) = z := by have := hc.2; simp only [List.length_cons] at this; omega
        simp only [tellN, if_true, Int.reduceEq, if_false, List.drop_succ_cons, List.drop_zero]
        rw [hz]
  rw [if_neg h3] at h
  by_cases h4 : x = 4
  · subst h4
    rw [if_pos rfl] at h
    split at h
    case isFalse => cases h
    case isTrue hc =>
      injection h with h
      subst h
      match l, hc with
      | [], hc => exact ⟨rfl, rfl⟩
      | y :: m, hc => simp at hc; omega
  rw [if_neg h4] at h
  by_cases h5 : x = 5
  · subst h5
    rw [if_pos rfl] at h
    split at h
    case isFalse => cases h
    case isTrue hc =>
      injection h with h
      subst h
      match l, hc with
      | [], hc => simp at hc
      | [y], hc => exact ⟨rfl, rfl⟩
      | y :: z :: m, hc => simp at hc; omega
  rw [if_neg h5] at h
  cases h
theorem readF_eq {xs : List Int} (hr : rates xs) (hpos : 0 < xs.length) : readF xs = match tellQ xs with
    | none => (nilRp, 2300)
    | some r => if tellF r = true then (r, 0) else (nilRp, 2300) := by
  have hn : nonneg xs := fun x hx => (hr x hx).1
  cases hq : tellQ xs with
  | some r =>
    obtain ⟨h1, h2⟩ := tellQ_dec hn hpos hq
    have h3 := replyR_c r []
    rw [List.append_nil, h2, ← h1] at h3
    unfold readF
    rw [h3]
    simp [okF]
  | none =>
    unfold readF
    by_cases ho : okF (replyR (xs, false)) = true
    · exfalso
      simp only [okF, Bool.and_eq_true, Bool.not_eq_true', List.isEmpty_iff] at ho
      obtain ⟨h1, h2, h3⟩ := ho
      have h4 := replyR_f h1 hn
      rw [h2, List.append_nil] at h4
      have h5 := tellQ_enc h3
      rw [← h4, hq] at h5
      cases h5
    · rw [if_neg ho]
theorem rlist_eq : ∀ (k : Nat) (s : ByteArray) (acc : List Int) (p : Int), tollbarref1_List.l0 k s acc p = WordL.listF k s acc p
  | 0, _, _, _ => rfl
  | k + 1, s, acc, p => by
    unfold tollbarref1_List.l0 WordL.listF
    have e : tollbarref1_Get.f s p = word_Get.f s p := rfl
    simp only [rlist_eq k, e]
theorem TellReads (x0 : ByteArray) (h0 : (fun s : ByteArray => s.size ≤ 140737488351232) x0) (hb : (fun s : ByteArray => s.size + 1) x0 ≤ 1048576) : ∃ k, tollbarlaw23_TellReads.f k x0 = some true := by
  have hs : x0.size + 1 ≤ 1048576 := hb
  obtain ⟨k, hk⟩ : ∃ k, k = 5 * x0.size + 10000000 := ⟨_, rfl⟩
  refine ⟨k, ?_⟩
  obtain ⟨xs, e, hl, hor⟩ := list_whole x0 (by omega) k (by omega)
  have hw : word_List.f k x0 = some (xs, e) := (wlist_eq k x0 [] 0).trans hl
  have hw2 : tollbarref1_List.f k x0 = some (xs, e) := (rlist_eq k x0 [] 0).trans hl
  have hlen : xs.length ≤ 1048576 := by
    rcases hor with ⟨_, _, h⟩ | ⟨_, h, _⟩
    · have := encs_ge xs
      rw [← h, dataL] at this
      omega
    · rw [h]; simp
  have key : ∃ (r : Rp) (er : Int), tell_Read.f k x0 = some (tupR (r, er)) ∧ tollbarref22_ReadTell.f k x0 = some (tupR (r, er)) ∧ (r = nilRp ∨ tellF r = true) := by
    unfold tell_Read.f tollbarref22_ReadTell.f
    rw [hw, hw2, Option.bind_some, Option.bind_some]
    dsimp only
    by_cases he : e = 0
    case neg =>
      rw [if_neg he, if_neg (fun h => he h.1)]
      exact ⟨_, _, rfl, rfl, .inl rfl⟩
    rw [if_pos he, if_pos (by omega)]
    by_cases hz : xs.length = 0
    · rw [if_neg (fun h => h.2 hz)]
      have hx : xs = [] := List.eq_nil_of_length_eq_zero hz
      subst hx
      exact ⟨nilRp, 2300, rfl, rfl, .inl rfl⟩
    rw [if_pos ⟨he, hz⟩, if_pos (by omega)]
    have hr : rates xs := by
      rcases hor with ⟨_, h, _⟩ | ⟨h, _⟩
      · exact h
      · exact absurd he h
    rw [readF_eq hr (by omega)]
    cases hq : tellQ xs with
    | none => exact ⟨nilRp, 2300, rfl, rfl, .inl rfl⟩
    | some r =>
      dsimp only
      obtain ⟨h1, h2⟩ := tellQ_dec (fun x hx => (hr x hx).1) (by omega) hq
      have hsz : r.vs.length ≤ xs.length ∧ costQ r.ps ≤ 2 * xs.length := by
        have hf := costQ_flat r.ps
        rw [h1]
        unfold tellN
        by_cases k2 : r.kind = 2
        · have hv : r.vs = [] := by rw [← h2]; simp [plain, k2]
          rw [hv]
          simp only [k2, if_true, Int.reduceEq, if_false, List.length_cons, List.length_nil]
          omega
        by_cases k3 : r.kind = 3
        · have hv : r.ps = [] := by rw [← h2]; simp [plain, k3]
          rw [hv]
          simp only [k3, if_true, Int.reduceEq, if_false, List.length_cons, costQ]
          omega
        have hv : r.vs = [] ∧ r.ps = [] := by
          rw [← h2]
          unfold plain
          simp only [k2, k3, if_false]
          split
          · exact ⟨rfl, rfl⟩
          split
          · exact ⟨rfl, rfl⟩
          · exact ⟨rfl, rfl⟩
        rw [hv.1, hv.2]
        exact ⟨by simp, by simp [costQ]⟩
      rw [replyMay_is r (by omega) (by omega) k (by omega) (by omega), Option.bind_some]
      by_cases hm : tellF r = true
      · rw [if_pos hm]
        exact ⟨r, 0, rfl, rfl, .inr hm⟩
      · rw [if_neg hm]
        exact ⟨nilRp, 2300, rfl, rfl, .inl rfl⟩
  obtain ⟨r, er, h1, h2, h3⟩ := key
  have hc : r.vs.length ≤ 3000 ∧ costQ r.ps ≤ 6000 := by
    rcases h3 with rfl | h
    · exact ⟨by simp [nilRp], by simp [nilRp, costQ]⟩
    · exact cost_may h
  have hl3 := costQ_len r.ps
  unfold tollbarlaw23_TellReads.f
  refine if_pos ⟨r, er, h1, h2, ?_, by omega, by omega, fun p hp => ?_⟩
  · rw [same_is r r (by omega) (by omega) k (by omega) (by omega), decide_eq_true rfl]
  · have a := costQ_mem r.ps p hp
    have b := costP_len p.f1
    exact ⟨by omega, fun q hq => by have := costP_mem p.f1 q hq; omega⟩
end Go.Proofs.Yteikgpdjfhdneaa.Pure
