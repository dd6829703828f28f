/- ask.Read at this dump. -/
import Derived.Test.YtikblicmnfnomaaAskW
import Derived.Test.YtikblicmnfnomaaWordL
import Derived.Test.YtikblicmnfnomaaQL
set_option linter.unusedVariables false
namespace Go.Proofs.Ytikblicmnfnomaa.Man
open Go.RowKit Go.Proofs.Ytikblicmnfnomaa.QL Go.Proofs.Ytikblicmnfnomaa.WordL Go.Proofs.YtikblicmnfnomaaW.PrintWords Go.Proofs.YtikblicmnfnomaaW.PrintLast Go.Proofs.YtikblicmnfnomaaW.PrintMore

/-- Numbers put into cells, one by one. -/
def fillQ : List Nat → List Int → (Nat → Int) → Nat → Int
  | o :: os, y :: ys, g => fillQ os ys (fun j => if j = o then y else g j)
  | _, _, g => g
def zeroQ (k : Int) (j : Nat) : Int := if j = 2 then k else 0
def packQ (g : Nat → Int) (e : Int) : Int × Int × Int × Int × Int × Int × Int × Int := (g 0, g 1, g 2, g 3, g 4, g 5, g 6, e)
def readQ (xs : List Int) (e : Int) : Int × Int × Int × Int × Int × Int × Int × Int :=
  if e ≠ 0 ∨ xs = [] then packQ (zeroQ 0) 2200
  else if offsK (rd xs 0) = [] ∨ (offsK (rd xs 0)).length + 1 ≠ xs.length then packQ (zeroQ 0) 2200
  else packQ (fillQ (offsK (rd xs 0)) (xs.drop 1) (zeroQ (rd xs 0))) 0
def ask_Read.f (s : ByteArray) : Option (Int × Int × Int × Int × Int × Int × Int × Int) :=
  if s.size ≤ 1099511627776 then (word_List.f (s.size + 1) s).map (fun p => readQ p.1 p.2) else none

theorem wraps_i64' (n : Int) (h₀ : 0 ≤ n) (h₁ : n < 2 ^ 63) : IntKind.i64.wrap n = n := by rw [IntKind.wrap_i64]; omega
theorem rd_nat (xs : List Int) (k : Nat) (hk : k < xs.length) : rd xs (k : Int) = xs[k] := by
  simp [rd, List.getD, hk]
theorem row7 {w : World} {b : Nat} {t : TypeId} {f : Nat → Value} (h : w.rowIs b t 7 f) : w.heap[b]? = some (.cells #[f 0, f 1, f 2, f 3, f 4, f 5, f 6] t (0, 0)) := by
  obtain ⟨c, hb, hn, hc⟩ := h
  have : c = #[f 0, f 1, f 2, f 3, f 4, f 5, f 6] := by
    apply Array.ext
    · simpa using hn
    · intro j h1 h2
      have := hc j (by omega)
      rw [Array.getElem?_eq_getElem h1] at this
      injection this with this
      rw [this]
      have h7 : j < 7 := by omega
      match j, h7 with
      | 0, _ | 1, _ | 2, _ | 3, _ | 4, _ | 5, _ | 6, _ => rfl
  rw [hb, this]
theorem lt_alloc {b : Nat} {w : World} (h : b < w.heap.size) (o : Obj) : b < (w.alloc o).heap.size := by
  simp only [Deep.nblk_alloc]
  omega
/-- Seven stores, one behind the other. -/
def put7 (w : World) (b : Nat) (y0 y1 y2 y3 y4 y5 y6 : Value) : World := ((((((w.setCell ⟨b, 0, none⟩ y0).setCell ⟨b, 1, none⟩ y1).setCell ⟨b, 2, none⟩ y2).setCell ⟨b, 3, none⟩ y3).setCell ⟨b, 4, none⟩ y4).setCell ⟨b, 5, none⟩ y5).setCell ⟨b, 6, none⟩ y6
theorem put7_row {w : World} {b : Nat} {t : TypeId} {f : Nat → Value} (h : w.rowIs b t 7 f) (y0 y1 y2 y3 y4 y5 y6 : Value) : (put7 w b y0 y1 y2 y3 y4 y5 y6).heap[b]? = some (.cells #[y0, y1, y2, y3, y4, y5, y6] t (0, 0)) :=
  row7 (((((((h.set 0 y0).set 1 y1).set 2 y2).set 3 y3).set 4 y4).set 5 y5).set 6 y6)
theorem put7_below {B : Nat} {a w : World} (h : Below B a w) {b : Nat} (hb : B ≤ b) (y0 y1 y2 y3 y4 y5 y6 : Value) : Below B a (put7 w b y0 y1 y2 y3 y4 y5 y6) :=
  ((((((h.setCell (p := ⟨b, 0, none⟩) hb y0).setCell (p := ⟨b, 1, none⟩) hb y1).setCell (p := ⟨b, 2, none⟩) hb y2).setCell (p := ⟨b, 3, none⟩) hb y3).setCell (p := ⟨b, 4, none⟩) hb y4).setCell (p := ⟨b, 5, none⟩) hb y5).setCell (p := ⟨b, 6, none⟩) hb y6
theorem put7_size (w : World) (b : Nat) (y0 y1 y2 y3 y4 y5 y6 : Value) : (put7 w b y0 y1 y2 y3 y4 y5 y6).heap.size = w.heap.size := by simp only [put7, Deep.nblk_setCell]
theorem put7_row_alloc {w : World} {b : Nat} {t : TypeId} {f : Nat → Value} (h : w.rowIs b t 7 f) (o : Obj) (y0 y1 y2 y3 y4 y5 y6 : Value) : ((put7 w b y0 y1 y2 y3 y4 y5 y6).alloc o).heap[b]? = some (.cells #[y0, y1, y2, y3, y4, y5, y6] t (0, 0)) :=
  (Deep.blk_alloc_lt _ _ _ (by rw [put7_size]; exact h.lt)).trans (put7_row h y0 y1 y2 y3 y4 y5 y6)

set_option maxHeartbeats 4000000 in
set_option maxRecDepth 100000 in
theorem ask_Read.calls (a0 : ByteArray) (r1 r2 r3 r4 r5 r6 r7 r8 : Int) (w : World) (h : ask_Read.f a0 = some (r1, r2, r3, r4, r5, r6, r7, r8)) :
    Calls Try.prog 31 #[.string a0] w fun e w' => e = .returned (.tuple #[.agg #[.int .i64 r1, .int .i64 r2, .int .i64 r3, .int .i64 r4, .int .i64 r5, .int .i64 r6, .int .i64 r7], .int .i64 r8]) ∧ Below w.heap.size w w' := by
  unfold ask_Read.f at h
  by_cases hsz : a0.size ≤ 1099511627776
  case neg => rw [if_neg hsz] at h; cases h
  rw [if_pos hsz] at h
  cases hL : word_List.f (a0.size + 1) a0 with
  | none => rw [hL] at h; cases h
  | some p =>
  obtain ⟨xs, x⟩ := p
  rw [hL] at h
  have HF : Hid (readQ xs x = (r1, r2, r3, r4, r5, r6, r7, r8)) := Lib.hid (Option.some.inj h)
  have HL := Lib.hid hL
  clear h hL hsz
  go_enter Try.func31, Try.ntmps31
  go_wp2_with fail
  refine (word_List.calls (a0.size + 1) a0 xs x _ HL.out).mono ?_
  rintro e w1 ⟨v, rfl, hR, hb⟩
  have hz : w1.rowIs w.heap.size 46 7 (fun _ => .int .i64 0) := by
    refine row_below ?_ hb (by simp)
    exact World.rowIs_alloc w _ _ _ (fun j hj => by
      match j with
      | 0 | 1 | 2 | 3 | 4 | 5 | 6 => rfl
      | n + 7 => exact absurd (show n + 7 < 7 from hj) (by omega))
  have hs1 : w.heap.size < w1.heap.size := hz.lt
  have hE : Below w.heap.size w w1 := ((Below.refl w.heap.size w).alloc (Nat.le_refl _) _).trans (hb.mono (by simp))
  have HZ := Lib.hid hz
  have HE := Lib.hid hE
  clear hb hz hE
  obtain ⟨A, c, rfl, hc, hC⟩ := Kd.R_reads hR
  have hm := Kd.C_max hC
  have HC := Lib.hid hC
  clear hR hC
  have HX : x ≠ 0 ∨ xs = [] → readQ xs x = packQ (zeroQ 0) 2200 := fun h => by rw [readQ, if_pos h]
  by_cases hx : x = 0
  case neg =>
    have hf := HF.out
    rw [HX (Or.inl hx)] at hf
    cases hf
    have hxb : (x != 0) = true := bne_iff_ne.mpr hx
    have hxc : (x == 0) = false := beq_eq_false_iff_ne.mpr hx
    clear hx HX
    have c0 := HZ.out.cell (i := 0) (by decide)
    have f0 := HZ.out.frozen 0
    have c1 := HZ.out.cell (i := 1) (by decide)
    have f1 := HZ.out.frozen 1
    have c2 := HZ.out.cell (i := 2) (by decide)
    have f2 := HZ.out.frozen 2
    have c3 := HZ.out.cell (i := 3) (by decide)
    have f3 := HZ.out.frozen 3
    have c4 := HZ.out.cell (i := 4) (by decide)
    have f4 := HZ.out.frozen 4
    have c5 := HZ.out.cell (i := 5) (by decide)
    have f5 := HZ.out.frozen 5
    have c6 := HZ.out.cell (i := 6) (by decide)
    have f6 := HZ.out.frozen 6
    go_wp2
    refine bodyPost_ret (results_list (rs := [.cell 2 46, .tmp 3]) rfl (by simp) (.cell w.heap.size 46 _ (0, 0) _ rfl (put7_row HZ.out (.int .i64 0) (.int .i64 0) (.int .i64 0) (.int .i64 0) (.int .i64 0) (.int .i64 0) (.int .i64 0) ) Try.underlying46 rfl (by kernel_rfl) (.tmp .nil))) rfl ?_
    exact ⟨rfl, put7_below HE.out (Nat.le_refl _) _ _ _ _ _ _ _⟩
  subst hx
  obtain ⟨m, hm1⟩ | hm0 : (∃ m, xs.length = m + 1) ∨ xs = [] := by
    cases xs with
    | nil => exact Or.inr rfl
    | cons a b => exact Or.inl ⟨b.length, rfl⟩
  case inr =>
    have hf := HF.out
    rw [HX (Or.inr hm0)] at hf
    cases hf
    have hl0 : xs.length = 0 := by rw [hm0]; rfl
    rw [hl0]
    clear HX HC hm0 hl0 hc hm
    have c0 := HZ.out.cell (i := 0) (by decide)
    have f0 := HZ.out.frozen 0
    have c1 := HZ.out.cell (i := 1) (by decide)
    have f1 := HZ.out.frozen 1
    have c2 := HZ.out.cell (i := 2) (by decide)
    have f2 := HZ.out.frozen 2
    have c3 := HZ.out.cell (i := 3) (by decide)
    have f3 := HZ.out.frozen 3
    have c4 := HZ.out.cell (i := 4) (by decide)
    have f4 := HZ.out.frozen 4
    have c5 := HZ.out.cell (i := 5) (by decide)
    have f5 := HZ.out.frozen 5
    have c6 := HZ.out.cell (i := 6) (by decide)
    have f6 := HZ.out.frozen 6
    go_wp2
    refine bodyPost_ret (results_list (rs := [.cell 2 46, .tmp 3]) rfl (by simp) (.cell w.heap.size 46 _ (0, 0) _ rfl (put7_row HZ.out (.int .i64 0) (.int .i64 0) (.int .i64 0) (.int .i64 0) (.int .i64 0) (.int .i64 0) (.int .i64 0) ) Try.underlying46 rfl (by kernel_rfl) (.tmp .nil))) rfl ?_
    exact ⟨rfl, put7_below HE.out (Nat.le_refl _) _ _ _ _ _ _ _⟩
  have hne : xs ≠ [] := by
    intro e
    rw [e] at hm1
    cases hm1
  clear HX
  rw [hm1] at hm
  have hC := HC.out
  obtain ⟨ad, rfl, hcell⟩ := Kd.at_int hC (0 : Int) (Int.le_refl 0) (by omega)
  rw [show ((0 : Int).toNat) = 0 from rfl] at hcell
  obtain ⟨k, hk⟩ : ∃ k, rd xs 0 = k := ⟨_, rfl⟩
  rw [hk] at hcell
  have hcell0 : w1.cell? ad = some (.int .i64 k) := by simpa [Addr.add] using hcell
  clear hcell
  have hmb : ((m : Int) + 1 == 0) = false := by
    rw [beq_eq_false_iff_ne]
    omega
  have hf := HF.out
  rw [readQ, if_neg (by simp [hne]), hk] at hf
  rw [hm1] at hf ⊢
  clear HF hne hC
  by_cases hnil : offsK k = []
  case pos =>
    rw [if_pos (Or.inl hnil)] at hf
    cases hf
    clear HC hc
    have c0 := HZ.out.cell (i := 0) (by decide)
    have f0 := HZ.out.frozen 0
    have c1 := HZ.out.cell (i := 1) (by decide)
    have f1 := HZ.out.frozen 1
    have c2 := HZ.out.cell (i := 2) (by decide)
    have f2 := HZ.out.frozen 2
    have c3 := HZ.out.cell (i := 3) (by decide)
    have f3 := HZ.out.frozen 3
    have c4 := HZ.out.cell (i := 4) (by decide)
    have f4 := HZ.out.frozen 4
    have c5 := HZ.out.cell (i := 5) (by decide)
    have f5 := HZ.out.frozen 5
    have c6 := HZ.out.cell (i := 6) (by decide)
    have f6 := HZ.out.frozen 6
    go_wp2_with fail
    refine (fields_any _ k _ (by simp)).mono ?_
    rw [hnil]
    rintro e w3 (⟨_, rfl, rfl⟩ | ⟨h, _⟩)
    case inr => exact absurd rfl h
    go_wp2_with fail
    refine bodyPost_ret (results_list (rs := [.cell 2 46, .tmp 3]) rfl (by simp) (.cell w.heap.size 46 _ (0, 0) _ rfl (put7_row_alloc HZ.out _ (.int .i64 0) (.int .i64 0) (.int .i64 0) (.int .i64 0) (.int .i64 0) (.int .i64 0) (.int .i64 0) ) Try.underlying46 rfl (by kernel_rfl) (.tmp .nil))) rfl ?_
    exact ⟨rfl, (put7_below HE.out (Nat.le_refl _) _ _ _ _ _ _ _).alloc (by rw [put7_size]; omega) _⟩
  obtain ⟨os, hos⟩ : ∃ os, offsK k = os := ⟨_, rfl⟩
  have h7 : ∀ o ∈ offsK k, o < 7 := by
    unfold offsK
    repeat' split
    all_goals decide
  have hl : (offsK k).length ≤ 5 := by
    unfold offsK
    repeat' split
    all_goals decide
  have HL0 : 0 < (offsK k).length := List.length_pos_iff.2 hnil
  have HN := Lib.hid hnil
  clear hnil
  go_wp2_with fail
  refine (fields_row _ k _ (by simp) HN.out).mono ?_
  rintro e w2 ⟨rfl, hb2, hs2, hr2⟩
  have hg2 : w2.rowIs w1.heap.size 46 7 (fun j => .int .i64 (zeroQ k j)) := by
    refine row_below ?_ hb2 (by simp)
    exact World.rowIs_alloc w1 _ _ _ (fun j hj => by
      match j with
      | 0 | 1 | 2 | 3 | 4 | 5 | 6 => simp [zeroQ]
      | n + 7 => exact absurd (show n + 7 < 7 from hj) (by omega))
  have hB2 : Below w1.heap.size w1 w2 := ((Below.refl w1.heap.size w1).alloc (Nat.le_refl _) _).trans (hb2.mono (by simp))
  have hz2 := row_below HZ.out hB2 hs1
  have hE2 := HE.out.trans (hB2.mono (by omega))
  simp only [show ∀ (u : World) (o : Obj), (u.alloc o).heap.size = u.heap.size + 1 from fun u o => by simp] at hs2 hr2
  rw [hos] at h7 hl HL0 hr2 hf ⊢
  have HG := Lib.hid hg2
  have HB2 := Lib.hid hB2
  have HZ2 := Lib.hid hz2
  have HE2 := Lib.hid hE2
  have HR2 := Lib.hid hr2
  clear hb2 hg2 hB2 hz2 hE2 hr2 HZ hcell0
  have hl0b : ((os.length : Int) == 0) = false := by
    rw [beq_eq_false_iff_ne]
    omega
  by_cases hlen : os.length + 1 = m + 1
  case neg =>
    rw [if_pos (Or.inr hlen)] at hf
    cases hf
    have hd : (os.length != m) = true := by simp; omega
    have hd2 : (os.length == m) = false := by simp; omega
    clear hlen HC hc
    have c0 := HZ2.out.cell (i := 0) (by decide)
    have f0 := HZ2.out.frozen 0
    have c1 := HZ2.out.cell (i := 1) (by decide)
    have f1 := HZ2.out.frozen 1
    have c2 := HZ2.out.cell (i := 2) (by decide)
    have f2 := HZ2.out.frozen 2
    have c3 := HZ2.out.cell (i := 3) (by decide)
    have f3 := HZ2.out.frozen 3
    have c4 := HZ2.out.cell (i := 4) (by decide)
    have f4 := HZ2.out.frozen 4
    have c5 := HZ2.out.cell (i := 5) (by decide)
    have f5 := HZ2.out.frozen 5
    have c6 := HZ2.out.cell (i := 6) (by decide)
    have f6 := HZ2.out.frozen 6
    go_wp2
    refine bodyPost_ret (results_list (rs := [.cell 2 46, .tmp 3]) rfl (by simp) (.cell w.heap.size 46 _ (0, 0) _ rfl (put7_row HZ2.out (.int .i64 0) (.int .i64 0) (.int .i64 0) (.int .i64 0) (.int .i64 0) (.int .i64 0) (.int .i64 0) ) Try.underlying46 rfl (by kernel_rfl) (.tmp .nil))) rfl ?_
    exact ⟨rfl, put7_below HE2.out (Nat.le_refl _) _ _ _ _ _ _ _⟩
  obtain rfl : m = os.length := by omega
  rw [if_neg (by have := HN.out; rw [hos] at this; simp [this])] at hf
  obtain ⟨F, hF⟩ : ∃ F, fillQ os (xs.drop 1) (zeroQ k) = F := ⟨_, rfl⟩
  rw [hF] at hf
  cases hf
  clear hlen
  go_wp2
  go_loopw [42] (fun x wr => ∃ (n : Nat) (f : Nat → Int), n ≤ os.length ∧ x = .int .i64 n ∧ wr.rowIs w1.heap.size 46 7 (fun j => .int .i64 (f j)) ∧ fillQ (os.drop n) (xs.drop (n + 1)) f = F ∧ wr.rowIs (w1.heap.size + 1) 70 os.length (ptrAt w1.heap.size os) ∧ Below w1.heap.size w1 wr ∧ wr.rowIs w.heap.size 46 7 (fun _ => .int .i64 0)) (fun x _ => os.length - (intOf x).toNat)
  case atStart => exact ⟨0, zeroQ k, Nat.zero_le _, rfl, HG.out, hF, HR2.out, HB2.out, HZ2.out⟩
  case round =>
    obtain ⟨n, f, hn, rfl, hG, hfill, hr, hb, hz⟩ := hrel
    clear HG HR2 HB2 HZ2 hF
    have hE := HE.out.trans (hb.mono (Nat.le_of_lt hs1))
    by_cases hlt : n < os.length
    · have c2 := hr.cell hlt
      obtain ⟨o, ho⟩ : ∃ o, os.getD n 0 = o := ⟨_, rfl⟩
      have eo : os.getD n 0 = os[n] := by simp [List.getD, hlt]
      simp only [ptrAt, ho] at c2
      have ho7 : o < 7 := h7 o (by
        rw [← ho, eo]
        exact List.getElem_mem hlt)
      have c3 := hG.cell ho7
      have f3 := hG.frozen o
      have hC := Kd.C_below HC.out hb
      obtain ⟨ad2, ead, hcell⟩ := Kd.at_int hC (1 + (n : Int)) (by omega) (by omega)
      injection ead with ead
      subst ead
      have en : (1 + (n : Int)).toNat = 1 + n := by omega
      rw [en] at hcell
      have ew : IntKind.i64.wrap (1 + (n : Int)) = 1 + (n : Int) := wraps_i64' _ (by omega) (by omega)
      have HGr := Lib.hid hG
      have HFi := Lib.hid hfill
      have HRr := Lib.hid hr
      have HBr := Lib.hid hb
      have HZr := Lib.hid hz
      have HEr := Lib.hid hE
      clear hG hfill hr hb hz hE hC
      go_wp2
      go_roundw
      case rel =>
        have hlx : n + 1 < xs.length := by omega
        have hrd : rd xs (1 + (n : Int)) = xs[n + 1] := by
          rw [show (1 + (n : Int)) = ((n + 1 : Nat) : Int) from by omega, rd_nat xs (n + 1) hlx]
        have hfi := HFi.out
        rw [List.drop_eq_getElem_cons hlt, List.drop_eq_getElem_cons hlx, ← eo, ho] at hfi
        refine ⟨n + 1, fun j => if j = o then rd xs (1 + (n : Int)) else f j, by omega, by simp, ?_, ?_, HRr.out.setOther (by show w1.heap.size + 1 ≠ w1.heap.size; omega) _, HBr.out.setCell (Nat.le_refl _) _, HZr.out.setOther (by show w.heap.size ≠ w1.heap.size; omega) _⟩
        · refine (HGr.out.set o _).congr fun j _ => ?_
          by_cases e : j = o
          · simp only [if_pos e]
          · simp only [if_neg e]
        · rw [hrd]
          exact hfi
      case measure => simp [intOf]; omega
    · obtain rfl : n = os.length := by omega
      rw [List.drop_length] at hfill
      have hfF : f = F := by rw [← hfill]; cases (xs.drop (os.length + 1)) <;> rfl
      subst hfF
      have cg0 := hG.cell (i := 0) (by decide)
      have fg0 := hG.frozen 0
      have cg1 := hG.cell (i := 1) (by decide)
      have fg1 := hG.frozen 1
      have cg2 := hG.cell (i := 2) (by decide)
      have fg2 := hG.frozen 2
      have cg3 := hG.cell (i := 3) (by decide)
      have fg3 := hG.frozen 3
      have cg4 := hG.cell (i := 4) (by decide)
      have fg4 := hG.frozen 4
      have cg5 := hG.cell (i := 5) (by decide)
      have fg5 := hG.frozen 5
      have cg6 := hG.cell (i := 6) (by decide)
      have fg6 := hG.frozen 6
      have c0 := hz.cell (i := 0) (by decide)
      have f0 := hz.frozen 0
      have c1 := hz.cell (i := 1) (by decide)
      have f1 := hz.frozen 1
      have c2 := hz.cell (i := 2) (by decide)
      have f2 := hz.frozen 2
      have c3 := hz.cell (i := 3) (by decide)
      have f3 := hz.frozen 3
      have c4 := hz.cell (i := 4) (by decide)
      have f4 := hz.frozen 4
      have c5 := hz.cell (i := 5) (by decide)
      have f5 := hz.frozen 5
      have c6 := hz.cell (i := 6) (by decide)
      have f6 := hz.frozen 6
      have HGr := Lib.hid hG
      have HZr := Lib.hid hz
      have HEr := Lib.hid hE
      clear hG hfill hr hb hz hE
      go_wp2
      refine bodyPost_ret (results_list (rs := [.cell 2 46, .tmp 3]) rfl (by simp) (.cell w.heap.size 46 _ (0, 0) _ rfl (put7_row HZr.out (.int .i64 (f 0)) (.int .i64 (f 1)) (.int .i64 (f 2)) (.int .i64 (f 3)) (.int .i64 (f 4)) (.int .i64 (f 5)) (.int .i64 (f 6))) Try.underlying46 rfl (by kernel_rfl) (.tmp .nil))) rfl ?_
      exact ⟨rfl, put7_below HEr.out (Nat.le_refl _) _ _ _ _ _ _ _⟩
end Go.Proofs.Ytikblicmnfnomaa.Man
