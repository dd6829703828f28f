/- TellK3: texts of this seat laid together by merge.py: TellU, TellV, TellW, TellX. -/
import Derived.Test.YteikgpdjfhdneaaTellS
import Derived.Test.YteikgpdjfhdneaaWordL
import Derived.Test.YteikgpdjfhdneaaQGm
import Derived.Test.YteikgpdjfhdneaaQHm
set_option linter.unusedVariables false
set_option linter.unusedSimpArgs false
namespace Go.Proofs.Yteikgpdjfhdneaa.TellU
open Go.RowKit Go.Proofs.Yteikgpdjfhdneaa.QT Go.Proofs.Yteikgpdjfhdneaa.Man Go.Proofs.YteikgpdjfhdneaaW.PrintWords Go.Proofs.YteikgpdjfhdneaaW.PrintLast Go.Proofs.YteikgpdjfhdneaaW.PrintMore
def pathN (p : Pth) : List Int := p.f0 :: (p.f1.length : Int) :: p.f1
def pieceN (p : Pce) : List Int := p.f0.f0 :: p.f0.f1 :: (p.f1.length : Int) :: p.f1.flatMap pathN
def tellN (r : Rp) : List Int := r.kind ::
  (if r.kind = 1 then [r.code] else if r.kind = 2 then r.id :: r.rate :: r.fr :: r.to_ :: (r.ps.length : Int) :: r.ps.flatMap pieceN
   else if r.kind = 3 then r.at_ :: (r.vs.length : Int) :: r.vs else if r.kind = 5 then [r.value] else [])
theorem nextR_c (x : Int) (zs : List Int) (b : Bool) : nextR (x :: zs, b) = (zs, b) := by simp [nextR, nextS]
theorem cntF_c (n : Nat) (zs : List Int) (h : n ≤ zs.length) : cntF ((n : Int) :: zs) = n := by
  show (if ((zs.length : Nat) : Int) < (n : Int) then (0 : Int) else (n : Int)) = n
  exact if_neg (by omega)
theorem cntS_c (n : Nat) (zs : List Int) (b : Bool) (h : n ≤ zs.length) : cntS ((n : Int) :: zs) b = b := by
  have hd : decide (((zs.length : Nat) : Int) < (n : Int)) = false := decide_eq_false (by omega)
  show ((b || false) || decide (((zs.length : Nat) : Int) < (n : Int))) = b
  rw [hd]
  simp
theorem listF_c (xs zs : List Int) : Man.listF ((xs.length : Int) :: (xs ++ zs)) = xs := by
  unfold Man.listF
  rw [cntF_c _ _ (by simp)]
  simp
theorem listR_c (xs zs : List Int) : listR ((xs.length : Int) :: (xs ++ zs)) = zs := by
  unfold listR
  rw [cntF_c _ _ (by simp)]
  simp
theorem pathR_c (p : Pth) (zs : List Int) : pathR (pathN p ++ zs, false) = (p, zs, false) := by
  obtain ⟨r, ls⟩ := p
  unfold pathR pathN
  simp only [List.cons_append, List.tail_cons, listF_c, listR_c, nextS, List.isEmpty_cons, Bool.or_false]
  rw [cntS_c _ _ _ (by simp)]
  rfl
theorem pathsR_c (ps : List Pth) (zs : List Int) : ∀ k, k ≤ ps.length → pathsR (ps.flatMap pathN ++ zs, false) k = (ps.take k, (ps.drop k).flatMap pathN ++ zs, false)
  | 0, _ => by simp [pathsR]
  | k + 1, h => by
    have hk : k < ps.length := by omega
    unfold pathsR
    rw [pathsR_c ps zs k (by omega)]
    rw [show ps.drop k = ps[k] :: ps.drop (k + 1) from (List.drop_eq_getElem_cons hk)]
    simp only [List.flatMap_cons, List.append_assoc, pathR_c]
    rw [List.take_succ_eq_append_getElem hk]
theorem flat_ge (ps : List Pth) : ps.length ≤ (ps.flatMap pathN).length := by
  induction ps with
  | nil => simp
  | cons p ps ih => simp only [List.flatMap_cons, List.length_append, List.length_cons, pathN]; omega
theorem pieceR_c (p : Pce) (zs : List Int) : pieceR (pieceN p ++ zs, false) = (p, zs, false) := by
  obtain ⟨⟨a, b⟩, ps⟩ := p
  have hg := flat_ge ps
  have hs : spanR (a :: b :: (ps.length : Int) :: (ps.flatMap pathN ++ zs), false) = ((ps.length : Int) :: (ps.flatMap pathN ++ zs), false) := by simp [spanR, nextS]
  have hc : cntR ((ps.length : Int) :: (ps.flatMap pathN ++ zs), false) = (ps.flatMap pathN ++ zs, false) := by
    unfold cntR
    rw [cntS_c _ _ _ (by rw [List.length_append]; omega)]
    rfl
  unfold pieceR pieceN
  simp only [List.cons_append, hs, hc]
  rw [cntF_c _ _ (by rw [List.length_append]; omega), Int.toNat_natCast, pathsR_c ps zs _ (Nat.le_refl _)]
  simp [nextF]
theorem piecesR_c (ps : List Pce) (zs : List Int) : ∀ k, k ≤ ps.length → piecesR (ps.flatMap pieceN ++ zs, false) k = (ps.take k, (ps.drop k).flatMap pieceN ++ zs, false)
  | 0, _ => by simp [piecesR]
  | k + 1, h => by
    have hk : k < ps.length := by omega
    unfold piecesR
    rw [piecesR_c ps zs k (by omega)]
    rw [show ps.drop k = ps[k] :: ps.drop (k + 1) from (List.drop_eq_getElem_cons hk)]
    simp only [List.flatMap_cons, List.append_assoc, pieceR_c]
    rw [List.take_succ_eq_append_getElem hk]
theorem flatQ_ge (ps : List Pce) : ps.length ≤ (ps.flatMap pieceN).length := by
  induction ps with
  | nil => simp
  | cons p ps ih => simp only [List.flatMap_cons, List.length_append, List.length_cons, pieceN]; omega
def plain (r : Rp) : Rp :=
  if r.kind = 1 then ⟨0, 0, 0, [], 1, r.code, 0, 0, 0, []⟩
  else if r.kind = 2 then ⟨r.fr, r.to_, 0, [], 2, 0, r.id, r.rate, 0, r.ps⟩
  else if r.kind = 3 then ⟨0, 0, r.at_, r.vs, 3, 0, 0, 0, 0, []⟩
  else if r.kind = 5 then ⟨0, 0, 0, [], 5, 0, 0, 0, r.value, []⟩
  else ⟨0, 0, 0, [], r.kind, 0, 0, 0, 0, []⟩
theorem replyR_c (r : Rp) (zs : List Int) : replyR (tellN r ++ zs, false) = (plain r, zs, false) := by
  obtain ⟨fr, to_, at_, vs, kind, code, id, rate, value, ps⟩ := r
  have hg := flatQ_ge ps
  unfold replyR tellN plain
  simp only [List.cons_append, nextR_c]
  rw [show nextF (kind :: ((if kind = 1 then [code] else if kind = 2 then id :: rate :: fr :: to_ :: (ps.length : Int) :: ps.flatMap pieceN else if kind = 3 then at_ :: (vs.length : Int) :: vs else if kind = 5 then [value] else []) ++ zs)) = kind from rfl]
  unfold kindR
  by_cases h1 : kind = 1
  · simp only [h1, if_true, List.cons_append, List.nil_append, nextR_c]
    rfl
  by_cases h2 : kind = 2
  · have hs : spanR (fr :: to_ :: (ps.length : Int) :: (ps.flatMap pieceN ++ zs), false) = ((ps.length : Int) :: (ps.flatMap pieceN ++ zs), false) := by simp [spanR, nextS]
    have hc : cntR ((ps.length : Int) :: (ps.flatMap pieceN ++ zs), false) = (ps.flatMap pieceN ++ zs, false) := by
      unfold cntR
      rw [cntS_c _ _ _ (by rw [List.length_append]; omega)]
      rfl
    subst h2
    simp only [if_true, Int.reduceEq, if_false, List.cons_append, nextR_c, hs, hc]
    rw [cntF_c _ _ (by rw [List.length_append]; omega), Int.toNat_natCast, piecesR_c ps zs _ (Nat.le_refl _)]
    simp [nextF]
  by_cases h3 : kind = 3
  · subst h3
    simp only [if_true, Int.reduceEq, if_false, List.cons_append, nextR_c, listF_c, listQ, listR_c]
    rw [cntS_c _ _ _ (by simp)]
    rfl
  by_cases h5 : kind = 5
  · subst h5
    simp only [if_true, Int.reduceEq, if_false, List.cons_append, List.nil_append, nextR_c]
    rfl
  simp only [h1, h2, h3, h5, if_false, List.nil_append]
theorem nextS_f {xs : List Int} {b : Bool} (h : nextS xs b = false) : b = false ∧ xs = nextF xs :: xs.tail := by
  cases xs with
  | nil => simp [nextS] at h
  | cons x r => exact ⟨by simpa [nextS] using h, rfl⟩
theorem cntS_f {xs : List Int} {b : Bool} (h : cntS xs b = false) : b = false ∧ xs = cntF xs :: xs.tail ∧ cntF xs ≤ xs.tail.length := by
  unfold cntS at h
  rw [Bool.or_eq_false_iff] at h
  obtain ⟨h1, h2⟩ := h
  have h2 := of_decide_eq_false h2
  obtain ⟨h3, h4⟩ := nextS_f h1
  unfold cntF
  rw [if_neg h2]
  exact ⟨h3, h4, by omega⟩
def nonneg (xs : List Int) : Prop := ∀ x ∈ xs, 0 ≤ x
theorem list_f {xs : List Int} {b : Bool} (h : cntS xs b = false) (hn : nonneg xs) : xs = ((Man.listF xs).length : Int) :: (Man.listF xs ++ listR xs) := by
  obtain ⟨_, h2, h3⟩ := cntS_f h
  have hm : cntF xs ∈ cntF xs :: xs.tail := List.mem_cons_self
  rw [← h2] at hm
  have h0 : 0 ≤ cntF xs := hn _ hm
  have hl : ((Man.listF xs).length : Int) = cntF xs := by
    unfold Man.listF
    rw [List.length_take]
    omega
  rw [hl]
  unfold Man.listF listR
  rw [List.take_append_drop]
  exact h2
theorem pathR_flag {q : List Int × Bool} (h : (pathR q).2.2 = false) : q.2 = false := by
  unfold pathR at h
  exact (nextS_f (cntS_f h).1).1
theorem pathR_f {q : List Int × Bool} (h : (pathR q).2.2 = false) (hn : nonneg q.1) : q.1 = pathN (pathR q).1 ++ (pathR q).2.1 := by
  unfold pathR at h ⊢
  simp only at h ⊢
  have h1 := (nextS_f (cntS_f h).1).2
  have hn' : nonneg q.1.tail := fun x hx => hn x (List.mem_of_mem_tail hx)
  have h2 := list_f h hn'
  unfold pathN
  simp only [List.cons_append]
  rw [← h2]
  exact h1
theorem pathsR_flag (q : List Int × Bool) : ∀ k, (pathsR q k).2.2 = false → q.2 = false
  | 0, h => h
  | k + 1, h => pathsR_flag q k (pathR_flag (q := (pathsR q k).2) h)
theorem nonneg_right {xs a b : List Int} (h : nonneg xs) (e : xs = a ++ b) : nonneg b := fun x hx => h x (by rw [e]; exact List.mem_append_right _ hx)
theorem pathsR_f (q : List Int × Bool) (hn : nonneg q.1) : ∀ k, (pathsR q k).2.2 = false → q.1 = (pathsR q k).1.flatMap pathN ++ (pathsR q k).2.1
  | 0, _ => by simp [pathsR]
  | k + 1, h => by
    have hf := pathR_flag (q := (pathsR q k).2) h
    have ih := pathsR_f q hn k hf
    have h1 := pathR_f (q := (pathsR q k).2) h (nonneg_right hn ih)
    unfold pathsR
    simp only [List.flatMap_append, List.flatMap_cons, List.flatMap_nil, List.append_nil, List.append_assoc]
    rw [← h1]
    exact ih
theorem spanR_f {q : List Int × Bool} (h : (spanR q).2 = false) : q.2 = false ∧ q.1 = nextF q.1 :: nextF q.1.tail :: (spanR q).1 := by
  unfold spanR at h ⊢
  simp only at h ⊢
  obtain ⟨h1, h2⟩ := nextS_f h
  obtain ⟨h3, h4⟩ := nextS_f h1
  exact ⟨h3, by rw [← h2, ← h4]⟩
theorem cntR_f {q : List Int × Bool} (h : (cntR q).2 = false) (hn : nonneg q.1) : q.2 = false ∧ q.1 = (((cntF q.1).toNat : Nat) : Int) :: (cntR q).1 := by
  unfold cntR at h ⊢
  simp only at h ⊢
  obtain ⟨h1, h2, h3⟩ := cntS_f h
  have hm : cntF q.1 ∈ cntF q.1 :: q.1.tail := List.mem_cons_self
  rw [← h2] at hm
  have h0 : 0 ≤ cntF q.1 := hn _ hm
  exact ⟨h1, by rw [Int.toNat_of_nonneg h0]; exact h2⟩
theorem pieceR_flag {q : List Int × Bool} (h : (pieceR q).2.2 = false) : (cntR (spanR q)).2 = false ∧ (spanR q).2 = false ∧ q.2 = false := by
  have h1 : (cntR (spanR q)).2 = false := pathsR_flag _ _ h
  have h2 : (spanR q).2 = false := (cntS_f h1).1
  exact ⟨h1, h2, (spanR_f h2).1⟩
theorem pieceR_f {q : List Int × Bool} (h : (pieceR q).2.2 = false) (hn : nonneg q.1) : q.1 = pieceN (pieceR q).1 ++ (pieceR q).2.1 := by
  obtain ⟨h1, h2, h3⟩ := pieceR_flag h
  obtain ⟨_, e1⟩ := spanR_f h2
  have n1 : nonneg (spanR q).1 := nonneg_right (a := [nextF q.1, nextF q.1.tail]) hn e1
  obtain ⟨_, e2⟩ := cntR_f h1 n1
  have n2 : nonneg (cntR (spanR q)).1 := nonneg_right (a := [_]) n1 e2
  have e3 := pathsR_f (cntR (spanR q)) n2 _ h
  unfold pieceR pieceN
  simp only [List.cons_append]
  rw [pathsR_len, ← e3, ← e2, ← e1]
theorem piecesR_flag (q : List Int × Bool) : ∀ k, (piecesR q k).2.2 = false → q.2 = false
  | 0, h => h
  | k + 1, h => piecesR_flag q k (pieceR_flag (q := (piecesR q k).2) h).2.2
theorem piecesR_f (q : List Int × Bool) (hn : nonneg q.1) : ∀ k, (piecesR q k).2.2 = false → q.1 = (piecesR q k).1.flatMap pieceN ++ (piecesR q k).2.1
  | 0, _ => by simp [piecesR]
  | k + 1, h => by
    have hf := (pieceR_flag (q := (piecesR q k).2) h).2.2
    have ih := piecesR_f q hn k hf
    have h1 := pieceR_f (q := (piecesR q k).2) h (nonneg_right hn ih)
    unfold piecesR
    simp only [List.flatMap_append, List.flatMap_cons, List.flatMap_nil, List.append_nil, List.append_assoc]
    rw [← h1]
    exact ih
theorem nextR_f {q : List Int × Bool} (h : (nextR q).2 = false) : q.2 = false ∧ q.1 = nextF q.1 :: (nextR q).1 := nextS_f h
theorem kindR_flag {k : Int} {q : List Int × Bool} (h : (kindR k q).2.2 = false) : q.2 = false := by
  unfold kindR at h
  split at h
  · exact (nextR_f h).1
  split at h
  · have h1 := (cntS_f (piecesR_flag _ _ h)).1
    exact (nextR_f (nextR_f (spanR_f h1).1).1).1
  split at h
  · exact (nextR_f (cntS_f h).1).1
  split at h
  · exact (nextR_f h).1
  · exact h
theorem replyR_f {xs : List Int} (h : (replyR (xs, false)).2.2 = false) (hn : nonneg xs) : xs = tellN (replyR (xs, false)).1 ++ (replyR (xs, false)).2.1 := by
  have h0 := (nextR_f (kindR_flag h)).2
  simp only at h0
  have n0 : nonneg (nextR (xs, false)).1 := nonneg_right (a := [nextF xs]) hn h0
  unfold replyR at h ⊢
  simp only at h ⊢
  generalize nextF xs = kd at h h0 ⊢
  generalize nextR (xs, false) = q at h h0 n0 ⊢
  rw [h0]
  clear h0 hn
  unfold kindR at h ⊢
  unfold tellN
  by_cases h1 : kd = 1
  · simp only [h1, if_true] at h ⊢
    exact congrArg _ (nextR_f h).2
  by_cases h2 : kd = 2
  · subst h2
    simp only [if_true, Int.reduceEq, if_false] at h ⊢
    have f1 := piecesR_flag _ _ h
    have f2 : (spanR (nextR (nextR q))).2 = false := (cntS_f f1).1
    obtain ⟨f3, e3⟩ := spanR_f f2
    obtain ⟨f4, e4⟩ := nextR_f f3
    obtain ⟨f5, e5⟩ := nextR_f f4
    have n1 := nonneg_right (a := [_]) n0 e5
    have n2 := nonneg_right (a := [_]) n1 e4
    have n3 := nonneg_right (a := [_, _]) n2 e3
    obtain ⟨_, e2⟩ := cntR_f f1 n3
    have n4 := nonneg_right (a := [_]) n3 e2
    have e1 := piecesR_f _ n4 _ h
    simp only [List.cons_append]
    rw [piecesR_len, ← e1, ← e2, show (nextR (nextR q)).1.tail = (nextR (nextR q)).1.tail from rfl, ← e3, ← e4, ← e5]
  by_cases h3 : kd = 3
  · subst h3
    simp only [if_true, Int.reduceEq, if_false] at h ⊢
    obtain ⟨f1, _⟩ := cntS_f h
    obtain ⟨f2, e2⟩ := nextR_f f1
    have n1 := nonneg_right (a := [_]) n0 e2
    have e1 := list_f h n1
    simp only [List.cons_append, listQ]
    rw [← e1, ← e2]
  by_cases h5 : kd = 5
  · subst h5
    simp only [if_true, Int.reduceEq, if_false] at h ⊢
    exact congrArg _ (nextR_f h).2
  simp only [h1, h2, h3, h5, if_false, List.nil_append, List.cons_append]
end Go.Proofs.Yteikgpdjfhdneaa.TellU
namespace Go.Proofs.Yteikgpdjfhdneaa.TellU
open Go.RowKit Go.Proofs.Yteikgpdjfhdneaa.QT Go.Proofs.Yteikgpdjfhdneaa.Man Go.Proofs.Yteikgpdjfhdneaa.QL Go.Proofs.Yteikgpdjfhdneaa.QG Go.Proofs.Yteikgpdjfhdneaa.WordM Go.Proofs.Yteikgpdjfhdneaa.WordL Go.Proofs.YteikgpdjfhdneaaW.PrintWords Go.Proofs.YteikgpdjfhdneaaW.PrintLast Go.Proofs.YteikgpdjfhdneaaW.PrintMore
theorem same_of {fr to_ at_ : Int} {n1 : Nat} {code id rate value : Int} {n2 : Nat} {fr' to' at' : Int} {m1 : Nat} {code' id' rate' value' : Int} {m2 : Nat} (h : samePl fr to_ at_ n1 code id rate value n2 fr' to' at' m1 code' id' rate' value' m2 = true) :
    fr' = fr ∧ to' = to_ ∧ at' = at_ ∧ m1 = n1 ∧ code' = code ∧ id' = id ∧ rate' = rate ∧ value' = value ∧ m2 = n2 := by
  simp only [samePl, Bool.and_eq_true, beq_iff_eq] at h
  obtain ⟨⟨h1, h2⟩, h3, h4, h5, h6, h7, h8, h9⟩ := h
  exact ⟨h1, h2, h3, by omega, h5, h6, h7, h8, by omega⟩
theorem nil_of {α : Type} {xs : List α} (h : 0 = xs.length) : xs = [] := List.eq_nil_of_length_eq_zero h.symm
theorem plain_may {r : Rp} (h : tellF r = true) : plain r = r := by
  obtain ⟨fr, to_, at_, vs, kind, code, id, rate, value, ps⟩ := r
  unfold tellF plF at h
  rw [Bool.and_eq_true] at h
  replace h := h.1
  unfold isPlF at h
  unfold plain
  simp only at h ⊢
  by_cases h1 : kind = 1
  · subst h1
    simp only [if_true] at h ⊢
    obtain ⟨rfl, rfl, rfl, e4, _, rfl, rfl, rfl, e9⟩ := same_of h
    rw [nil_of e4, nil_of e9]
  by_cases h2 : kind = 2
  · subst h2
    simp only [if_true, Int.reduceEq, if_false] at h ⊢
    obtain ⟨_, _, rfl, e4, rfl, _, _, rfl, _⟩ := same_of h
    rw [nil_of e4]
  by_cases h3 : kind = 3
  · subst h3
    simp only [if_true, Int.reduceEq, if_false] at h ⊢
    obtain ⟨rfl, rfl, _, _, rfl, rfl, rfl, rfl, e9⟩ := same_of h
    rw [nil_of e9]
  by_cases h5 : kind = 5
  · subst h5
    simp only [if_true, Int.reduceEq, if_false] at h ⊢
    obtain ⟨rfl, rfl, rfl, e4, rfl, rfl, rfl, _, e9⟩ := same_of h
    rw [nil_of e4, nil_of e9]
  simp only [h1, h2, h3, h5, if_false] at h ⊢
  obtain ⟨rfl, rfl, rfl, e4, rfl, rfl, rfl, rfl, e9⟩ := same_of h
  rw [nil_of e4, nil_of e9]
theorem verts_len : ∀ (vs : List Int) (q : Int), vertsL (some q) vs = true → 0 ≤ q → q < 8 → (vs.length : Int) + q ≤ 7 ∧ ∀ x ∈ vs, 0 ≤ x ∧ x < 8
  | [], q, _, _, _ => ⟨by simp; omega, fun x hx => by cases hx⟩
  | v :: r, q, h, h0, h1 => by
    unfold vertsL at h
    split at h
    case isFalse => cases h
    case isTrue hc =>
      have hq := hc.2 q rfl
      obtain ⟨h2, h3⟩ := verts_len r v h hc.1.1 hc.1.2
      refine ⟨by simp only [List.length_cons]; omega, fun x hx => ?_⟩
      rcases List.mem_cons.1 hx with rfl | hx
      · exact hc.1
      · exact h3 x hx
theorem verts_may (vs : List Int) (h : vertsF vs = true) : vs.length ≤ 8 ∧ 0 < vs.length ∧ ∀ x ∈ vs, 0 ≤ x ∧ x < 8 := by
  unfold vertsF at h
  rw [Bool.and_eq_true] at h
  obtain ⟨h, hl⟩ := h
  have hl := of_decide_eq_true hl
  cases vs with
  | nil => simp at hl
  | cons v r =>
    unfold vertsL at h
    split at h
    case isFalse => cases h
    case isTrue hc =>
      obtain ⟨h2, h3⟩ := verts_len r v h hc.1.1 hc.1.2
      refine ⟨by simp only [List.length_cons]; omega, hl, fun x hx => ?_⟩
      rcases List.mem_cons.1 hx with rfl | hx
      · exact hc.1
      · exact h3 x hx
theorem piecesL_may : ∀ (ps : List Pce) (b a : Int), piecesL b a ps = true → ∀ p ∈ ps, ∃ t, pieceOK t p
  | [], _, _, _, p, hp => by cases hp
  | q :: r, b, a, h, p, hp => by
    unfold piecesL at h
    split at h
    case isFalse => cases h
    case isTrue hc =>
      rcases List.mem_cons.1 hp with rfl | hp
      · exact ⟨a, hc⟩
      · exact piecesL_may r b _ h p hp
theorem path_may {p : Pth} (h : pathF p = true) : rates (pathN p) ∧ (pathN p).length ≤ 18 ∧ (encs (pathN p)).length ≤ 43 := by
  obtain ⟨r, ls⟩ := p
  simp only [pathF, rateF, linkF, Bool.and_eq_true, decide_eq_true_eq, List.all_eq_true] at h
  obtain ⟨h1, ⟨h2, h3⟩, h4, h5, h6⟩ := h
  refine ⟨fun x hx => ?_, by simp only [pathN, List.length_cons]; omega, ?_⟩
  · simp only [pathN, List.mem_cons] at hx
    rcases hx with rfl | rfl | hx
    · omega
    · omega
    · have := h6 x hx; omega
  · show (WordL.encs (r :: (ls.length : Int) :: ls)).length ≤ 43
    rw [encs_cons, encs_cons, List.length_append, List.length_append]
    have e1 := encW_le r.toNat
    have e2 : (encW (ls.length : Int).toNat).length ≤ 2 := by
      rw [encW_length, szW]
      split <;> (try split) <;> omega
    have e3 : ∀ zs : List Int, (∀ x ∈ zs, 0 ≤ x ∧ x < 16) → (encs zs).length ≤ 2 * zs.length := by
      intro zs
      induction zs with
      | nil => intro _; simp [WordL.encs]
      | cons z zs ih =>
        intro hz
        have h0 := hz z List.mem_cons_self
        have h1 := ih (fun x hx => hz x (List.mem_cons_of_mem _ hx))
        rw [encs_cons, List.length_append, List.length_cons, encW_length]
        have : szW z.toNat ≤ 1 := by
          unfold szW
          split <;> (try split) <;> omega
        omega
    have := e3 ls h6
    omega
theorem flat_may {α : Type} (f : α → List Int) (n b : Nat) : ∀ (ps : List α), (∀ p ∈ ps, rates (f p) ∧ (f p).length ≤ n ∧ (encs (f p)).length ≤ b) → rates (ps.flatMap f) ∧ (ps.flatMap f).length ≤ ps.length * n ∧ (encs (ps.flatMap f)).length ≤ ps.length * b
  | [], _ => ⟨fun x hx => by simp at hx, by simp, by simp [WordL.encs]⟩
  | p :: r, h => by
    obtain ⟨h1, h2, h3⟩ := h p List.mem_cons_self
    obtain ⟨i1, i2, i3⟩ := flat_may f n b r (fun q hq => h q (List.mem_cons_of_mem _ hq))
    rw [List.flatMap_cons]
    refine ⟨fun x hx => ?_, ?_, ?_⟩
    · rcases List.mem_append.1 hx with hx | hx
      · exact h1 x hx
      · exact i1 x hx
    · rw [List.length_append, List.length_cons, Nat.succ_mul]; omega
    · rw [WordL.encs_append, List.length_append, List.length_cons, Nat.succ_mul]; omega
theorem small_enc (x : Int) (h : x < 65536) : (encW x.toNat).length ≤ 3 := by
  rw [encW_length]
  have : szW x.toNat ≤ 2 := by
    unfold szW
    split <;> (try split) <;> (try split) <;> omega
  omega
theorem piece_may {t : Int} {p : Pce} (h : pieceOK t p) : rates (pieceN p) ∧ (pieceN p).length ≤ 291 ∧ (encs (pieceN p)).length ≤ 697 := by
  obtain ⟨⟨a, b⟩, qs⟩ := p
  obtain ⟨⟨h1, _⟩, ⟨h2, h3⟩, h4⟩ := h
  simp only [mayF, Bool.and_eq_true, decide_eq_true_eq] at h1 h2 h3 h4
  obtain ⟨i1, i2, i3⟩ := flat_may pathN 18 43 qs (fun q hq => path_may (List.all_eq_true.1 h4 q hq))
  have j1 : qs.length * 18 ≤ 288 := by omega
  have j2 : qs.length * 43 ≤ 688 := by omega
  refine ⟨fun x hx => ?_, ?_, ?_⟩
  · simp only [pieceN, List.mem_cons] at hx
    rcases hx with rfl | rfl | rfl | hx
    · omega
    · omega
    · omega
    · exact i1 x hx
  · simp only [pieceN, List.length_cons]; omega
  · show (WordL.encs (a :: b :: (qs.length : Int) :: qs.flatMap pathN)).length ≤ 697
    rw [encs_cons, encs_cons, encs_cons]
    simp only [List.length_append]
    have e1 := small_enc a (by omega)
    have e2 := small_enc b (by omega)
    have e3 := small_enc (qs.length : Int) (by omega)
    omega
theorem may_nums {r : Rp} (h : tellF r = true) : rates (tellN r) ∧ (tellN r).length ≤ 3000 ∧ (encs (tellN r)).length ≤ 8192 ∧ 1 ≤ (encs (tellN r)).length := by
  obtain ⟨fr, to_, at_, vs, kind, code, id, rate, value, ps⟩ := r
  have hge := encs_ge (tellN ⟨fr, to_, at_, vs, kind, code, id, rate, value, ps⟩)
  have hpos : 1 ≤ (tellN ⟨fr, to_, at_, vs, kind, code, id, rate, value, ps⟩).length := by simp [tellN]
  refine (fun hh => ⟨hh.1, hh.2.1, hh.2.2, by omega⟩ : (rates (tellN _) ∧ (tellN _).length ≤ 3000 ∧ (encs (tellN _)).length ≤ 8192) → _) ?_
  clear hge hpos
  unfold tellF kindF at h
  rw [Bool.and_eq_true] at h
  replace h := h.2
  unfold tellN
  simp only at h ⊢
  by_cases h1 : kind = 1
  · subst h1
    simp only [if_true, Bool.and_eq_true, decide_eq_true_eq] at h ⊢
    refine ⟨fun x hx => ?_, by simp, ?_⟩
    · simp only [List.mem_cons, List.not_mem_nil, or_false] at hx
      rcases hx with rfl | rfl <;> omega
    · have := encs_le [1, code]
      simp at this
      omega
  by_cases h2 : kind = 2
  · subst h2
    simp only [if_true, Int.reduceEq, if_false, rateF, mayF, piecesF, Bool.and_eq_true, decide_eq_true_eq] at h ⊢
    obtain ⟨h3, h4, h5, ⟨h6, h7⟩, ⟨⟨h8, h9⟩, h10⟩, h11, h12, h13⟩ := h
    obtain ⟨i1, i2, i3⟩ := flat_may pieceN 291 697 ps (fun q hq => by obtain ⟨t, ht⟩ := piecesL_may ps to_ fr h13 q hq; exact piece_may ht)
    refine ⟨fun x hx => ?_, by simp only [List.length_cons]; omega, ?_⟩
    · simp only [List.mem_cons] at hx
      rcases hx with rfl | rfl | rfl | rfl | rfl | rfl | hx
      · omega
      · omega
      · omega
      · omega
      · omega
      · omega
      · exact i1 x hx
    · simp only [encs_cons, List.length_append]
      have e1 := small_enc 2 (by omega)
      have e2 := encW_le id.toNat
      have e3 := encW_le rate.toNat
      have e4 := small_enc fr (by omega)
      have e5 := small_enc to_ (by omega)
      have e6 := small_enc (ps.length : Int) (by omega)
      omega
  by_cases h3 : kind = 3
  · subst h3
    simp only [if_true, Int.reduceEq, if_false, Bool.and_eq_true, decide_eq_true_eq] at h ⊢
    obtain ⟨h4, h5, h6⟩ := h
    obtain ⟨v1, v2, v3⟩ := verts_may vs h6
    refine ⟨fun x hx => ?_, by simp only [List.length_cons]; omega, ?_⟩
    · simp only [List.mem_cons] at hx
      rcases hx with rfl | rfl | rfl | hx
      · omega
      · omega
      · omega
      · have := v3 x hx; omega
    · have := encs_le (3 :: at_ :: (vs.length : Int) :: vs)
      simp at this
      omega
  by_cases h5 : kind = 5
  · subst h5
    simp only [if_true, Int.reduceEq, if_false, rateF, Bool.and_eq_true, decide_eq_true_eq] at h ⊢
    refine ⟨fun x hx => ?_, by simp, ?_⟩
    · simp only [List.mem_cons, List.not_mem_nil, or_false] at hx
      rcases hx with rfl | rfl <;> omega
    · have := encs_le [5, value]
      simp at this
      omega
  simp only [h1, h2, h3, h5, if_false, decide_eq_true_eq] at h ⊢
  subst h
  refine ⟨fun x hx => ?_, by simp, ?_⟩
  · simp only [List.mem_cons, List.not_mem_nil, or_false] at hx
    omega
  · have := encs_le [4]
    simp at this
    omega
def bytesR (r : Rp) : ByteArray := ⟨(WordL.encs (tellN r)).toArray⟩
theorem wrapN (i : Nat) (h : i ≤ 4611686018427387904) : wrap64 ((i : Int) + 1) = ((i + 1 : Nat) : Int) := by
  unfold wrap64
  omega
end Go.Proofs.Yteikgpdjfhdneaa.TellU
namespace Go.Proofs.Yteikgpdjfhdneaa.QT
deriving instance DecidableEq for S78
deriving instance DecidableEq for S42
deriving instance DecidableEq for S76
end Go.Proofs.Yteikgpdjfhdneaa.QT
namespace Go.Proofs.Yteikgpdjfhdneaa.Man
deriving instance DecidableEq for Rp
end Go.Proofs.Yteikgpdjfhdneaa.Man
namespace Go.Proofs.Yteikgpdjfhdneaa.TellU
open Go.RowKit Go.Proofs.Yteikgpdjfhdneaa.QT Go.Proofs.Yteikgpdjfhdneaa.Man Go.Proofs.Yteikgpdjfhdneaa.QH Go.Proofs.YteikgpdjfhdneaaW.PrintWords Go.Proofs.YteikgpdjfhdneaaW.PrintLast Go.Proofs.YteikgpdjfhdneaaW.PrintMore
theorem cons_eq {α : Type} [DecidableEq α] (a b : α) (xs ys : List α) (h : a = b) : decide (a :: xs = b :: ys) = decide (xs = ys) := by
  subst h
  by_cases h : xs = ys <;> simp [h]
theorem cons_ne {α : Type} [DecidableEq α] (a b : α) (xs ys : List α) (h : ¬ a = b) : decide (a :: xs = b :: ys) = false := by simp [h]
theorem ints_l0 (xs ys : List Int) (hl : xs.length = ys.length) (hb : xs.length ≤ 1000000000) : ∀ (d i k : Nat), xs.length - i = d → i ≤ xs.length → d < k → tollbarref19_SameInts.l0 k xs ys (i : Int) = some (decide (xs.drop i = ys.drop i)) := by
  intro d
  induction d with
  | zero =>
    intro i k hd hi hk
    obtain ⟨k, rfl⟩ : ∃ m, k = m + 1 := ⟨k - 1, by omega⟩
    rw [tollbarref19_SameInts.l0, if_neg (by omega), List.drop_of_length_le (by omega), List.drop_of_length_le (by omega)]
    rfl
  | succ d ih =>
    intro i k hd hi hk
    obtain ⟨k, rfl⟩ : ∃ m, k = m + 1 := ⟨k - 1, by omega⟩
    have hx : i < xs.length := by omega
    have hy : i < ys.length := by omega
    rw [tollbarref19_SameInts.l0, if_pos (by omega), if_pos (by omega), if_pos (by omega), rdI_at xs i hx, rdI_at ys i hy, List.drop_eq_getElem_cons hx, List.drop_eq_getElem_cons hy]
    by_cases h : xs[i] = ys[i]
    · rw [if_pos h, wrapN i (by omega), ih (i + 1) k (by omega) (by omega) (by omega), cons_eq _ _ _ _ h]
    · rw [if_neg h, cons_ne _ _ _ _ h]
theorem ints_is (xs ys : List Int) (hb : xs.length ≤ 1000000000) (k : Nat) (hk : xs.length < k) : tollbarref19_SameInts.f k xs ys = some (decide (xs = ys)) := by
  unfold tollbarref19_SameInts.f
  by_cases h : xs.length = ys.length
  · rw [if_pos (by omega)]
    have h0 := ints_l0 xs ys h hb xs.length 0 k (by omega) (by omega) hk
    rw [List.drop_zero, List.drop_zero] at h0
    exact h0
  · rw [if_neg (by omega), decide_eq_false (fun e => h (by rw [e]))]
theorem paths_l1 (ps qs : List Pth) (i : Nat) (hp : i < ps.length) (hq : i < qs.length) (hl : ps[i].f1.length = qs[i].f1.length) (hb : ps[i].f1.length ≤ 1000000000) : ∀ (d j k : Nat), ps[i].f1.length - j = d → j ≤ ps[i].f1.length →
    tollbarref19_SamePaths.l1 (d + 1 + k) ps qs (i : Int) (j : Int) = if ps[i].f1.drop j = qs[i].f1.drop j then tollbarref19_SamePaths.l0 k ps qs (wrap64 ((i : Int) + 1)) else some false := by
  intro d
  induction d with
  | zero =>
    intro j k hd hj
    rw [show 0 + 1 + k = k + 1 by omega, tollbarref19_SamePaths.l1, rdP_at ps i hp, rdP_at qs i hq, if_pos (by omega), if_pos (by omega), if_neg (by omega), if_pos (by rw [List.drop_of_length_le (by omega), List.drop_of_length_le (by omega)])]
  | succ d ih =>
    intro j k hd hj
    have hx : j < ps[i].f1.length := by omega
    have hy : j < qs[i].f1.length := by omega
    rw [show d + 1 + 1 + k = (d + 1 + k) + 1 by omega, tollbarref19_SamePaths.l1, rdP_at ps i hp, rdP_at qs i hq, if_pos (by omega), if_pos (by omega), if_pos (by omega), if_pos (by omega), if_pos (by omega), if_pos (by omega), rdI_at _ j hx, rdI_at _ j hy, List.drop_eq_getElem_cons hx, List.drop_eq_getElem_cons hy]
    by_cases h : ps[i].f1[j] = qs[i].f1[j]
    · rw [if_pos h, wrapN j (by omega), ih (j + 1) k (by omega) (by omega)]
      by_cases h2 : ps[i].f1.drop (j + 1) = qs[i].f1.drop (j + 1)
      · rw [if_pos h2, if_pos (by rw [h, h2])]
      · rw [if_neg h2, if_neg (fun e => h2 (by injection e))]
    · rw [if_neg h, if_neg (fun e => h (by injection e))]
def costP : List Pth → Nat
  | [] => 0
  | p :: r => p.f1.length + 3 + costP r
theorem costP_mem : ∀ (ps : List Pth) (p : Pth), p ∈ ps → p.f1.length ≤ costP ps
  | [], _, h => by cases h
  | q :: r, p, h => by
    rcases List.mem_cons.1 h with rfl | h
    · simp only [costP]; omega
    · have := costP_mem r p h
      simp only [costP]; omega
theorem costP_len : ∀ (ps : List Pth), ps.length ≤ costP ps
  | [] => by simp
  | q :: r => by
    have := costP_len r
    simp only [costP, List.length_cons]; omega
theorem paths_l0 (ps qs : List Pth) (hl : ps.length = qs.length) (hb : costP ps ≤ 1000000000) : ∀ (d i k : Nat), ps.length - i = d → i ≤ ps.length → tollbarref19_SamePaths.l0 (costP (ps.drop i) + 1 + k) ps qs (i : Int) = some (decide (ps.drop i = qs.drop i)) := by
  have hbl := costP_len ps
  intro d
  induction d with
  | zero =>
    intro i k hd hi
    rw [List.drop_of_length_le (by omega), List.drop_of_length_le (by omega), show costP [] + 1 + k = k + 1 by simp only [costP]; omega, tollbarref19_SamePaths.l0, if_neg (by omega)]
    rfl
  | succ d ih =>
    intro i k hd hi
    have hx : i < ps.length := by omega
    have hy : i < qs.length := by omega
    have hm := costP_mem ps ps[i] (List.getElem_mem hx)
    have ihk := ih (i + 1) k (by omega) (by omega)
    rw [List.drop_eq_getElem_cons hx, List.drop_eq_getElem_cons hy]
    rw [show costP (ps[i] :: ps.drop (i + 1)) + 1 + k = ((ps[i].f1.length + 1 + (costP (ps.drop (i + 1)) + 1 + k)) + 1) + 1 by simp only [costP]; omega]
    rw [tollbarref19_SamePaths.l0, if_pos (by omega), if_pos (by omega), if_pos (by omega), rdP_at ps i hx, rdP_at qs i hy]
    by_cases h0 : ps[i].f0 = qs[i].f0
    · rw [if_pos h0, tollbarref19_SamePaths.j1]
      by_cases h1 : ps[i].f1.length = qs[i].f1.length
      · have hl1 := paths_l1 ps qs i hx hy h1 (by omega) ps[i].f1.length 0 (costP (ps.drop (i + 1)) + 1 + k) (by omega) (by omega)
        rw [show ((0 : Nat) : Int) = 0 from rfl] at hl1
        rw [if_neg (by simp [h1]), hl1, List.drop_zero, List.drop_zero, wrapN i (by omega), ihk]
        by_cases h2 : ps[i].f1 = qs[i].f1
        · have he : ps[i] = qs[i] := by
            cases hpi : ps[i]; cases hqi : qs[i]
            rw [hpi, hqi] at h0 h2
            simp only at h0 h2
            rw [h0, h2]
          rw [if_pos h2, cons_eq _ _ _ _ he]
        · rw [if_neg h2, cons_ne _ _ _ _ (fun e => h2 (by rw [e]))]
      · rw [if_pos (by simp; omega), cons_ne _ _ _ _ (fun e => h1 (by rw [e]))]
    · rw [if_neg h0, tollbarref19_SamePaths.j1, if_pos rfl, cons_ne _ _ _ _ (fun e => h0 (by rw [e]))]
theorem paths_is (ps qs : List Pth) (hb : costP ps ≤ 1000000000) (k : Nat) (hk : costP ps < k) : tollbarref19_SamePaths.f k ps qs = some (decide (ps = qs)) := by
  unfold tollbarref19_SamePaths.f
  by_cases h : ps.length = qs.length
  · rw [if_pos (by omega)]
    have h0 := paths_l0 ps qs h hb ps.length 0 (k - costP ps - 1) (by omega) (by omega)
    rw [List.drop_zero, List.drop_zero, show costP ps + 1 + (k - costP ps - 1) = k by omega] at h0
    exact h0
  · rw [if_neg (by omega), decide_eq_false (fun e => h (by rw [e]))]
def costQ : List Pce → Nat
  | [] => 0
  | p :: r => costP p.f1 + 3 + costQ r
theorem costQ_mem : ∀ (ps : List Pce) (p : Pce), p ∈ ps → costP p.f1 ≤ costQ ps
  | [], _, h => by cases h
  | q :: r, p, h => by
    rcases List.mem_cons.1 h with rfl | h
    · simp only [costQ]; omega
    · have := costQ_mem r p h
      simp only [costQ]; omega
theorem costQ_len : ∀ (ps : List Pce), ps.length ≤ costQ ps
  | [] => by simp
  | q :: r => by
    have := costQ_len r
    simp only [costQ, List.length_cons]; omega
theorem pieces_l0 (ps qs : List Pce) (hl : ps.length = qs.length) (hb : costQ ps ≤ 1000000000) : ∀ (d i k : Nat), ps.length - i = d → i ≤ ps.length → costQ ps + d < k → tollbarref19_SamePieces.l0 k ps qs (i : Int) = some (decide (ps.drop i = qs.drop i)) := by
  have hbl := costQ_len ps
  intro d
  induction d with
  | zero =>
    intro i k hd hi hk
    obtain ⟨k, rfl⟩ : ∃ m, k = m + 1 := ⟨k - 1, by omega⟩
    rw [tollbarref19_SamePieces.l0, if_neg (by omega), List.drop_of_length_le (by omega), List.drop_of_length_le (by omega)]
    rfl
  | succ d ih =>
    intro i k hd hi hk
    obtain ⟨k, rfl⟩ : ∃ m, k = m + 1 := ⟨k - 1, by omega⟩
    have hx : i < ps.length := by omega
    have hy : i < qs.length := by omega
    have hm := costQ_mem ps ps[i] (List.getElem_mem hx)
    rw [tollbarref19_SamePieces.l0, if_pos (by omega), if_pos (by omega), if_pos (by omega), rdQ_at ps i hx, rdQ_at qs i hy, paths_is _ _ (by omega) k (by omega), Option.bind_some, List.drop_eq_getElem_cons hx, List.drop_eq_getElem_cons hy]
    by_cases h0 : ps[i].f0 = qs[i].f0
    · rw [if_neg (by rw [h0]; simp)]
      by_cases h1 : ps[i].f1 = qs[i].f1
      · have he : ps[i] = qs[i] := by
          cases hpi : ps[i]; cases hqi : qs[i]
          rw [hpi, hqi] at h0 h1
          simp only at h0 h1
          rw [h0, h1]
        rw [decide_eq_true h1, if_pos rfl, wrapN i (by omega), ih (i + 1) k (by omega) (by omega) (by omega), cons_eq _ _ _ _ he]
      · rw [decide_eq_false h1, if_neg (by simp), cons_ne _ _ _ _ (fun e => h1 (by rw [e]))]
    · rw [if_pos, cons_ne _ _ _ _ (fun e => h0 (by rw [e]))]
      cases hpi : ps[i].f0
      cases hqi : qs[i].f0
      rw [hpi, hqi] at h0
      simp only [S42.mk.injEq] at h0
      simp only [Bool.or_eq_true, Bool.not_eq_true', beq_eq_false_iff_ne]
      omega
theorem pieces_is (ps qs : List Pce) (hb : costQ ps ≤ 1000000000) (k : Nat) (hk : 2 * costQ ps < k) : tollbarref19_SamePieces.f k ps qs = some (decide (ps = qs)) := by
  have hbl := costQ_len ps
  unfold tollbarref19_SamePieces.f
  by_cases h : ps.length = qs.length
  · rw [if_pos (by omega)]
    have h0 := pieces_l0 ps qs h hb ps.length 0 k (by omega) (by omega) (by omega)
    rw [List.drop_zero, List.drop_zero] at h0
    exact h0
  · rw [if_neg (by omega), decide_eq_false (fun e => h (by rw [e]))]
theorem same_ref (r q : Rp) (hv : r.vs.length ≤ 1000000000) (hp : costQ r.ps ≤ 1000000000) (k : Nat) (hk : r.vs.length < k) (hk2 : 2 * costQ r.ps < k) :
    tollbarref19_SameReply.f k r.fr r.to_ r.at_ r.vs r.kind r.code r.id r.rate r.value r.ps q.fr q.to_ q.at_ q.vs q.kind q.code q.id q.rate q.value q.ps = some (decide (r = q)) := by
  obtain ⟨fr, to_, at_, vs, kind, code, id, rate, value, ps⟩ := r
  obtain ⟨fr', to', at', vs', kind', code', id', rate', value', ps'⟩ := q
  simp only at hv hp hk hk2 ⊢
  unfold tollbarref19_SameReply.f
  rw [ints_is vs vs' hv k hk, pieces_is ps ps' hp k hk2]
  simp only [Option.bind_some, Rp.mk.injEq]
  by_cases h0 : fr = fr' ∧ to_ = to'
  case neg =>
    rw [if_neg (by simpa using h0), decide_eq_false (fun e => h0 ⟨e.1, e.2.1⟩)]
  obtain ⟨rfl, rfl⟩ := h0
  rw [if_pos (by simp)]
  by_cases h1 : at_ = at'
  case neg => rw [if_neg h1, decide_eq_false (fun e => h1 e.2.2.1)]
  rw [if_pos h1]
  by_cases h2 : vs = vs'
  case neg => rw [decide_eq_false h2, if_neg (by simp), decide_eq_false (fun e => h2 e.2.2.2.1)]
  rw [decide_eq_true h2, if_pos rfl]
  by_cases h3 : kind = kind'
  case neg => rw [if_neg h3, decide_eq_false (fun e => h3 e.2.2.2.2.1)]
  rw [if_pos h3]
  by_cases h4 : code = code'
  case neg => rw [if_neg h4, decide_eq_false (fun e => h4 e.2.2.2.2.2.1)]
  rw [if_pos h4]
  by_cases h5 : id = id'
  case neg => rw [if_neg h5, decide_eq_false (fun e => h5 e.2.2.2.2.2.2.1)]
  rw [if_pos h5]
  by_cases h6 : rate = rate'
  case neg => rw [if_neg h6, decide_eq_false (fun e => h6 e.2.2.2.2.2.2.2.1)]
  rw [if_pos h6]
  by_cases h7 : value = value'
  case neg => rw [if_neg h7, decide_eq_false (fun e => h7 e.2.2.2.2.2.2.2.2.1)]
  rw [if_pos h7]
  simp [h1, h2, h3, h4, h5, h6, h7]
theorem same_is (r q : Rp) (hv : r.vs.length ≤ 1000000000) (hp : costQ r.ps ≤ 1000000000) (k : Nat) (hk : r.vs.length < k) (hk2 : 2 * costQ r.ps < k) :
    tollbarlaw0_SameReply.f k r.fr r.to_ r.at_ r.vs r.kind r.code r.id r.rate r.value r.ps q.fr q.to_ q.at_ q.vs q.kind q.code q.id q.rate q.value q.ps = some (decide (r = q)) := by
  unfold tollbarlaw0_SameReply.f
  rw [same_ref r q hv hp k hk hk2, Option.bind_some]
theorem costP_flat : ∀ (ps : List Pth), costP ps ≤ 2 * (ps.flatMap pathN).length
  | [] => by simp [costP]
  | p :: r => by
    have := costP_flat r
    rw [List.flatMap_cons, List.length_append]
    simp only [costP, pathN, List.length_cons]
    omega
theorem costQ_flat : ∀ (ps : List Pce), costQ ps ≤ 2 * (ps.flatMap pieceN).length
  | [] => by simp [costQ]
  | p :: r => by
    have h1 := costQ_flat r
    have h2 := costP_flat p.f1
    rw [List.flatMap_cons, List.length_append]
    simp only [costQ, pieceN, List.length_cons]
    omega
theorem cost_may {r : Rp} (h : tellF r = true) : r.vs.length ≤ 3000 ∧ costQ r.ps ≤ 6000 := by
  have h1 := (may_nums h).2.1
  have h2 := costQ_flat r.ps
  have h3 := plain_may h
  unfold tellN at h1
  by_cases k2 : r.kind = 2
  · simp only [k2, if_true, Int.reduceEq, if_false, List.length_cons] at h1
    have hv : r.vs = [] := by rw [← h3]; simp [plain, k2]
    rw [hv]
    exact ⟨by simp, by omega⟩
  by_cases k3 : r.kind = 3
  · simp only [k3, if_true, Int.reduceEq, if_false, List.length_cons] at h1
    have hv : r.ps = [] := by rw [← h3]; simp [plain, k3]
    rw [hv]
    exact ⟨by omega, by simp [costQ]⟩
  have hv : r.vs = [] ∧ r.ps = [] := by
    rw [← h3]
    unfold plain
    simp only [k2, k3, if_false]
    split
    · exact ⟨rfl, rfl⟩
    split
    · exact ⟨rfl, rfl⟩
    · exact ⟨rfl, rfl⟩
  rw [hv.1, hv.2]
  exact ⟨by simp, by simp [costQ]⟩
end Go.Proofs.Yteikgpdjfhdneaa.TellU
namespace Go.Proofs.Yteikgpdjfhdneaa.TellU
open Go.RowKit Go.Proofs.Yteikgpdjfhdneaa.QT Go.Proofs.Yteikgpdjfhdneaa.Man Go.Proofs.Yteikgpdjfhdneaa.QL Go.Proofs.Yteikgpdjfhdneaa.QG Go.Proofs.Yteikgpdjfhdneaa.WordM Go.Proofs.Yteikgpdjfhdneaa.WordL Go.Proofs.YteikgpdjfhdneaaW.PrintWords Go.Proofs.YteikgpdjfhdneaaW.PrintLast Go.Proofs.YteikgpdjfhdneaaW.PrintMore
theorem wlist_eq : ∀ (k : Nat) (s : ByteArray) (acc : List Int) (p : Int), word_List.l0 k s acc p = WordL.listF k s acc p
  | 0, _, _, _ => rfl
  | k + 1, s, acc, p => by
    unfold word_List.l0 WordL.listF
    simp only [wlist_eq k]
theorem enc_cancel {x y : Nat} {u v : List UInt8} (hx : x ≤ 4611686018427387904) (hy : y ≤ 4611686018427387904) (h : encW x ++ u = encW y ++ v) : x = y ∧ u = v := by
  have h1 := get_enc ⟨(encW x ++ u).toArray⟩ [] u x (by simp) hx
  have h2 := get_enc ⟨(encW x ++ u).toArray⟩ [] v y (by simp [h]) hy
  rw [h1] at h2
  injection h2 with e1 e2
  have e : x = y := by omega
  subst e
  exact ⟨rfl, List.append_cancel_left h⟩
theorem encs_pre : ∀ (xs ys : List Int) (u : List UInt8), rates xs → rates ys → WordL.encs xs ++ u = WordL.encs ys → ∃ zs, ys = xs ++ zs ∧ u = WordL.encs zs
  | [], ys, u, _, _, h => ⟨ys, rfl, by simpa [WordL.encs] using h⟩
  | x :: xs, [], u, _, _, h => by
    have h1 := congrArg List.length h
    have h2 := encW_ge x.toNat
    rw [encs_cons, List.length_append, List.length_append] at h1
    have h3 : (WordL.encs []).length = 0 := rfl
    omega
  | x :: xs, y :: ys, u, hx, hy, h => by
    rw [encs_cons, encs_cons, List.append_assoc] at h
    have bx := hx x List.mem_cons_self
    have by_ := hy y List.mem_cons_self
    obtain ⟨e1, e2⟩ := enc_cancel (by omega) (by omega) h
    obtain ⟨zs, e3, e4⟩ := encs_pre xs ys u (fun z hz => hx z (List.mem_cons_of_mem _ hz)) (fun z hz => hy z (List.mem_cons_of_mem _ hz)) e2
    exact ⟨zs, by rw [e3, show x = y by omega]; rfl, e4⟩
theorem encs_inj {xs ys : List Int} (hx : rates xs) (hy : rates ys) (h : WordL.encs xs = WordL.encs ys) : xs = ys := by
  obtain ⟨zs, e1, e2⟩ := encs_pre xs ys [] hx hy (by simpa using h)
  cases zs with
  | nil => simpa using e1.symm
  | cons z zs =>
    have h1 := congrArg List.length e2
    have h2 := encW_ge z.toNat
    rw [encs_cons, List.length_append] at h1
    simp at h1
    omega
theorem dataL (s : ByteArray) : s.data.toList.length = s.size := by
  rw [Array.length_toList]
  rfl
theorem bytes_of {s : ByteArray} {r : Rp} (h : s.data.toList = WordL.encs (tellN r)) : s = bytesR r := by
  apply ByteArray.ext
  apply Array.toList_inj.1
  show s.data.toList = (WordL.encs (tellN r)).toArray.toList
  rw [h]
theorem read_nums {r : Rp} (h : tellF r = true) : replyR (tellN r, false) = (r, [], false) := by
  have h1 := replyR_c r []
  rw [List.append_nil, plain_may h] at h1
  exact h1
theorem read_is (s : ByteArray) (hs : s.size ≤ 1048576) (k : Nat) (hk : s.size < k) : ∃ r e, tell_Read.f k s = some (tupR (r, e)) ∧
    ((e = 0 ∧ tellF r = true ∧ s = bytesR r) ∨ (e = 2300 ∧ r = nilRp ∧ ∀ r', tellF r' = true → s ≠ bytesR r')) := by
  obtain ⟨xs, e, hl, hor⟩ := list_whole s (by omega) k hk
  have hw : word_List.f k s = some (xs, e) := (wlist_eq k s [] 0).trans hl
  have hlen : xs.length ≤ 1048576 := by
    rcases hor with ⟨_, _, h⟩ | ⟨_, h, _⟩
    · have := encs_ge xs
      rw [← h, dataL] at this
      omega
    · rw [h]; simp
  unfold tell_Read.f
  rw [hw, Option.bind_some]
  dsimp only
  rcases hor with ⟨rfl, hr, hd⟩ | ⟨he, _, hno⟩
  · rw [if_pos rfl, if_pos (by omega)]
    refine ⟨(readF xs).1, (readF xs).2, rfl, ?_⟩
    unfold readF
    by_cases ho : okF (replyR (xs, false)) = true
    · rw [if_pos ho]
      have ho' := ho
      simp only [okF, Bool.and_eq_true, Bool.not_eq_true', List.isEmpty_iff] at ho'
      obtain ⟨h1, h2, h3⟩ := ho'
      refine .inl ⟨rfl, h3, bytes_of ?_⟩
      have h4 := replyR_f h1 (fun x hx => (hr x hx).1)
      rw [h2, List.append_nil] at h4
      rw [hd]
      exact congrArg _ h4
    · rw [if_neg ho]
      refine .inr ⟨rfl, rfl, fun r' hm hse => ho ?_⟩
      have hx : xs = tellN r' := encs_inj hr (may_nums hm).1 (by rw [← hd, hse]; rfl)
      rw [hx, read_nums hm]
      simp [okF, hm]
  · rw [if_neg he]
    refine ⟨_, _, rfl, .inr ⟨rfl, rfl, fun r' hm hse => ?_⟩⟩
    exact hno _ (may_nums hm).1 (by rw [hse]; rfl)
end Go.Proofs.Yteikgpdjfhdneaa.TellU
