/- TellFX: texts of this seat laid together by merge.py: TellFA, TellFB. -/
import Derived.Test.YteikgpdjfhdneaaTellS
import Derived.Deep.RegionLaw
set_option linter.unusedVariables false
set_option linter.unusedSimpArgs false
namespace Go.Proofs.Yteikgpdjfhdneaa.Man
open Go.RowKit Go.Proofs.Yteikgpdjfhdneaa.QT Go.Proofs.YteikgpdjfhdneaaW.PrintWords Go.Proofs.YteikgpdjfhdneaaW.PrintLast Go.Proofs.YteikgpdjfhdneaaW.PrintMore
set_option maxHeartbeats 4000000 in
set_option maxRecDepth 100000 in
theorem front_no (A : Option Addr) (c : Nat) (xs : List Int) (kk : Int) (w : World) (h : kk < 0 ∨ (xs.length : Int) < kk) :
    Calls Try.prog 78 #[.slice A xs.length c, .int .i64 kk] w fun e w' => e = .returned (.tuple #[.slice none 0 0, .slice none 0 0, .bool false]) ∧ w' = w := by
  by_cases h1 : kk < 0
  · have h2 : ¬ 0 ≤ kk := by omega
    go_enter Try.func78, Try.ntmps78
    go_wp2_with fail
    exact bodyPost_ret (v := .tuple #[.slice none 0 0, .slice none 0 0, .bool false]) (by simp [results, Try.results78, go_sem]) rfl ⟨rfl, rfl⟩
  · have h2 : (xs.length : Int) < kk := by omega
    have h3 : 0 ≤ kk := by omega
    go_enter Try.func78, Try.ntmps78
    go_wp2_with fail
    exact bodyPost_ret (v := .tuple #[.slice none 0 0, .slice none 0 0, .bool false]) (by simp [results, Try.results78, go_sem]) rfl ⟨rfl, rfl⟩
theorem lit0_R (W : World) (base : Nat) (h : base ≤ W.heap.size) : Kd.R (Kd.int .i64) 3 (W.alloc (.cells #[] 3 (0, 0))) base (fun _ => True) (.slice (some ⟨W.heap.size, 0, none⟩) 0 0) [] :=
  ⟨fun _ _ => trivial, _, World.ownsRow_lit (base := base) (e := 3) (size := 1) W _ 0 h (by decide) rfl, Reps.none _ _⟩
set_option maxHeartbeats 4000000 in
set_option maxRecDepth 100000 in
theorem front_is (A : Option Addr) (c : Nat) (xs : List Int) (kk : Int) (w : World) (h0 : 0 ≤ kk) (h1 : kk ≤ (xs.length : Int)) (hc : xs.length ≤ c) (hb : xs.length ≤ 1099511627776) (hC : Kd.C (Kd.int .i64) w A xs.length xs) :
    Calls Try.prog 78 #[.slice A xs.length c, .int .i64 kk] w fun e w' => ∃ (v0 : Value) (A' : Option Addr) (c' : Nat), e = .returned (.tuple #[v0, .slice A' (xs.drop kk.toNat).length c', .bool true]) ∧ Kd.R (Kd.int .i64) 3 w' w.heap.size (fun _ => True) v0 (xs.take kk.toNat) ∧ (∀ W : World, Kd.C (Kd.int .i64) W A xs.length xs → Kd.C (Kd.int .i64) W A' (xs.drop kk.toNat).length (xs.drop kk.toNat)) ∧ (xs.drop kk.toNat).length ≤ c' ∧ Below w.heap.size w w' := by
  obtain ⟨i3, hi3, hz3⟩ := Option.map_eq_some_iff.1 info3
  have hs3 : i3.size = 1 := by simp only [Prod.mk.injEq] at hz3; exact hz3.2.1
  obtain ⟨ht, hrt, hlt⟩ := print_take_of (P := Try.prog) (fun x : Int => Value.int .i64 x) 0 43 3 .i64 Try.underlying43 hi3 hs3 A c xs kk h0 h1 hc
  obtain ⟨A', hd, hrd, hle⟩ := print_drop_of (P := Try.prog) (fun x : Int => Value.int .i64 x) 0 43 3 .i64 Try.underlying43 hi3 hs3 A c xs kk h0 h1 hc
  have hCt : Hid (Kd.C (Kd.int .i64) w A (xs.take kk.toNat).length (xs.take kk.toNat)) := Lib.hid (Kd.C_of_reads (hrt w (Kd.reads_of_C (d := (0 : Int)) hC)))
  have hCd : Hid (∀ W : World, Kd.C (Kd.int .i64) W A xs.length xs → Kd.C (Kd.int .i64) W A' (xs.drop kk.toNat).length (xs.drop kk.toNat)) := Lib.hid (fun W h => Kd.C_of_reads (hrd W (Kd.reads_of_C (d := (0 : Int)) h)))
  have hlt2 : (xs.take kk.toNat).length ≤ 1099511627776 := by rw [List.length_take]; omega
  have hcd : (xs.drop kk.toNat).length ≤ c - kk.toNat := hle
  have HB0 := Lib.hid (((Below.refl w.heap.size w).drew).alloc (Nat.le_refl _) (.cells #[] 3 (0, 0)))
  have HO0 := Lib.hid (lit0_R w.drew w.heap.size (Nat.le_refl _))
  have hn1 : ¬ kk < 0 := by omega
  have hn2 : ¬ (xs.length : Int) < kk := by omega
  clear hC hrt hrd hi3 hz3 hs3
  generalize xs.take kk.toNat = ts at ht hCt hlt2 hlt ⊢
  generalize xs.drop kk.toNat = ds at hd hCd hcd hle ⊢
  go_enter Try.func78, Try.ntmps78
  go_wp2_with fail
  go_region_law (refine Kd.R_append_rows_step (Kd.int .i64) (w0 := w.drew.alloc (.cells #[] 3 (0, 0))) w.heap.size (by rfl) (.tmp 15) (.tmp 18) 43 3 (.int .i64 0) 8 rfl Try.underlying43 info3 rfl (by decide) (by omega) (.slice (some ⟨w.heap.size, 0, none⟩) 0 0) [] ts A ts.length c (fun _ => True) (fun _ => False) rfl rfl ?aO ?aR (fun _ _ h => h) (fun _ h => h.elim) ?aF ?aB ?aS ?aL ?_; (case aO => exact HO0.out); (case aR => exact (Kd.C_below hCt.out (HB0.out.mono (Nat.le_refl _)))); (case aF => exact (fun _ _ => trivial)); (case aB => exact Below.refl _ _); (case aS => (simp; done)); (case aL => (simp only [List.length_nil]; omega)); intro v1 w1 ho hb1 hg _; have HO1 := Lib.hid ho; have HB1 := Lib.hid (HB0.out.grown hg HB0.out.size (fun k e => by simp only [Value.ownBlock, Option.some.injEq] at e; omega)); clear ho hb1 hg)
  all_goals (go_wp2_with fail)
  all_goals exact bodyPost_ret (v := .tuple #[v1, .slice A' ds.length (c - kk.toNat), .bool true]) (by simp [results, Try.results78, go_sem]) rfl ⟨v1, A', c - kk.toNat, rfl, by simpa using HO1.out, hCd.out, hcd, HB1.out⟩
def stepP (xs : List Int) : Option (Pth × List Int) := if 2 ≤ xs.length ∧ 0 ≤ rd xs 1 ∧ rd xs 1 ≤ ((xs.drop 2).length : Int) then some (⟨rd xs 0, (xs.drop 2).take (rd xs 1).toNat⟩, (xs.drop 2).drop (rd xs 1).toNat) else none
def itP (xs : List Int) : Nat → Option (List Pth × List Int)
  | 0 => some ([], xs)
  | k + 1 => (itP xs k).bind fun p => (stepP p.2).bind fun q => some (p.1 ++ [q.1], q.2)
theorem itP_none (xs : List Int) (k : Nat) (h : itP xs k = none) : ∀ d, itP xs (k + d) = none
  | 0 => h
  | d + 1 => by
    show (itP xs (k + d)).bind _ = none
    rw [itP_none xs k h d]
    rfl
theorem itP_len (xs : List Int) : ∀ (k : Nat) (ps : List Pth) (r : List Int), itP xs k = some (ps, r) → ps.length = k ∧ r.length ≤ xs.length
  | 0, ps, r, h => by
    injection h with h
    simp only [Prod.mk.injEq] at h
    rw [← h.1, ← h.2]
    exact ⟨rfl, Nat.le_refl _⟩
  | k + 1, ps, r, h => by
    unfold itP at h
    cases hk : itP xs k with
    | none => rw [hk] at h; cases h
    | some p =>
      obtain ⟨ps0, r0⟩ := p
      rw [hk, Option.bind_some] at h
      obtain ⟨h1, h2⟩ := itP_len xs k ps0 r0 hk
      unfold stepP at h
      split at h
      · rw [Option.bind_some] at h
        injection h with h
        simp only [Prod.mk.injEq] at h
        rw [← h.1, ← h.2]
        refine ⟨by simp [h1], ?_⟩
        simp only [List.length_drop]
        omega
      · cases h
def pathsQ (xs : List Int) (kk : Int) : Option (List Pth × List Int) := if (xs.length : Int) < kk then none else itP xs kk.toNat
def PathsPost (A : Option Addr) (xs : List Int) (w : World) (o : Option (List Pth × List Int)) (e : Ending) (w' : World) : Prop :=
  match o with
  | none => e = .returned (.tuple #[.slice none 0 0, .slice none 0 0, .bool false]) ∧ Below w.heap.size w w'
  | some p => ∃ (v0 : Value) (A' : Option Addr) (c' : Nat), e = .returned (.tuple #[v0, .slice A' p.2.length c', .bool true]) ∧ Kd.R k78 78 w' w.heap.size (fun _ => True) v0 p.1 ∧ (∀ W : World, Kd.C (Kd.int .i64) W A xs.length xs → Kd.C (Kd.int .i64) W A' p.2.length p.2) ∧ p.2.length ≤ c' ∧ Below w.heap.size w w'
def PathsLoop (A : Option Addr) (xs : List Int) (w : World) (n : Nat) (x i out_ : Value) (w' : World) : Prop := ∃ (k : Nat) (ps : List Pth) (r : List Int) (A' : Option Addr) (c' : Nat), i = .int .i64 (k : Int) ∧ k ≤ n ∧ x = .slice A' r.length c' ∧ itP xs k = some (ps, r) ∧ Kd.R k78 78 w' w.heap.size (fun _ => True) out_ ps ∧ (∀ W : World, Kd.C (Kd.int .i64) W A xs.length xs → Kd.C (Kd.int .i64) W A' r.length r) ∧ r.length ≤ c' ∧ Below w.heap.size w w'
set_option maxHeartbeats 8000000 in
set_option maxRecDepth 100000 in
theorem readPaths_is (A : Option Addr) (c : Nat) (xs : List Int) (kk : Int) (w : World) (hc : xs.length ≤ c) (hb : xs.length ≤ 1099511627776) (hC : Kd.C (Kd.int .i64) w A xs.length xs) :
    Calls Try.prog 79 #[.slice A xs.length c, .int .i64 kk] w (PathsPost A xs w (pathsQ xs kk)) := by
  unfold pathsQ
  by_cases hbig : (xs.length : Int) < kk
  · rw [if_pos hbig]
    go_enter Try.func79, Try.ntmps79
    go_wp2_with fail
    exact bodyPost_ret (v := .tuple #[.slice none 0 0, .slice none 0 0, .bool false]) (by simp [results, Try.results79, go_sem]) rfl ⟨rfl, Below.refl _ _⟩
  rw [if_neg hbig]
  have hbig2 : kk ≤ (xs.length : Int) := by omega
  have HC := Lib.hid hC
  obtain ⟨F, hF⟩ : ∃ F, itP xs kk.toNat = F := ⟨_, rfl⟩
  have HF := Lib.hid hF
  rw [hF]
  clear hC hF
  go_enter Try.func79, Try.ntmps79
  go_wp2_with fail
  go_loopw [0, 8, 7] (PathsLoop A xs w kk.toNat) (fun _ i _ _ => kk.toNat - (intOf i).toNat)
  case atStart => exact ⟨0, [], xs, A, c, rfl, Nat.zero_le _, rfl, rfl, Kd.R_nil _ _ _ _ _, fun _ h => h, hc, Below.refl _ _⟩
  case round =>
    obtain ⟨k, ps, r, A', c', rfl, hk, rfl, hit, ho, hA, hc', hB⟩ := hrel
    have HO := Lib.hid ho
    have HB := Lib.hid hB
    have HA := Lib.hid hA
    have HI := Lib.hid hit
    obtain ⟨hl1, hl2⟩ := itP_len xs k ps r hit
    have HL1 := Lib.hid hl1
    clear ho hB hA hit hl1
    by_cases hlt : (k : Int) < kk
    · have hd : decide ((k : Int) < kk) = true := decide_eq_true hlt
      have HST : Hid (itP xs (k + 1) = (stepP r).bind fun q => some (ps ++ [q.1], q.2)) := Lib.hid (by rw [itP, HI.out]; rfl)
      have HFN : Hid (stepP r = none → F = none) := Lib.hid (fun h => by
        rw [← HF.out, show kk.toNat = (k + 1) + (kk.toNat - (k + 1)) by omega]
        exact itP_none xs (k + 1) (by rw [HST.out, h]; rfl) _)
      by_cases h2 : 2 ≤ r.length
      case neg =>
        have HN := Lib.hid (HFN.out (by unfold stepP; rw [if_neg (fun h => h2 h.1)]))
        have HX := Lib.hid (front_no A' c' r 2 wr (Or.inr (by omega)))
        go_wp2_with fail
        refine HX.out.mono ?_
        rintro e w2 ⟨rfl, rfl⟩
        go_wp2_with fail
        exact bodyPost_ret (v := .tuple #[.slice none 0 0, .slice none 0 0, .bool false]) (by simp [results, Try.results79, go_sem]) rfl (by rw [HN.out]; exact ⟨rfl, HB.out⟩)
      have HX := Lib.hid (front_is A' c' r 2 wr (by decide) (by omega) hc' (by omega) (Kd.C_below (HA.out _ HC.out) HB.out))
      have hlen2 : (r.take 2).length = 2 := by rw [List.length_take]; omega
      have hrd0 : rd (r.take 2) 0 = rd r 0 := by simp [rd, show 0 < r.length by omega]
      have hrd1 : rd (r.take 2) 1 = rd r 1 := by simp [rd]
      go_wp2_with fail
      refine HX.out.mono ?_
      rintro e w2 ⟨v9, B', d', rfl, h9, hB9, hd9, hb2⟩
      simp only [show (2 : Int).toNat = 2 from rfl] at h9 hB9 hd9 ⊢
      have hdl : (r.drop 2).length ≤ 1099511627776 := by rw [List.length_drop]; omega
      obtain ⟨ds, hds⟩ : ∃ ds, r.drop 2 = ds := ⟨_, rfl⟩
      rw [hds] at hB9 hd9 hdl ⊢
      obtain ⟨C9, c9, rfl, hl9, hc9⟩ := Kd.R_reads h9
      obtain ⟨ad, e9, x1⟩ := Kd.at_int hc9 1 (by omega) (by omega)
      obtain ⟨ad', e9', x0⟩ := Kd.at_int hc9 0 (by omega) (by omega)
      subst e9
      obtain rfl : ad = ad' := by injection e9'
      rw [hrd1] at x1
      rw [hrd0] at x0
      rw [hlen2]
      have x1 : w2.cell? ⟨ad.block, ad.off + 1, none⟩ = some (.int .i64 (rd r 1)) := by simpa [Addr.add] using x1
      have HX0 : Hid (w2.cell? ad = some (.int .i64 (rd r 0))) := Lib.hid (by simpa [Addr.add] using x0)
      have HB2 := Lib.hid hb2
      have HB9 := Lib.hid hB9
      have HB2w := Lib.hid (below_then HB.out HB.out.size hb2)
      clear x0 h9 hc9 hb2 hB9 e9'
      obtain ⟨b, hb_⟩ : ∃ b, rd r 1 = b := ⟨_, rfl⟩
      obtain ⟨a, ha_⟩ : ∃ a, rd r 0 = a := ⟨_, rfl⟩
      rw [hb_] at x1
      rw [ha_] at HX0
      by_cases h3 : 0 ≤ b ∧ b ≤ (ds.length : Int)
      case neg =>
        have HN := Lib.hid (HFN.out (by unfold stepP; rw [hds, if_neg (fun h => h3 (by rw [← hb_]; exact h.2))]))
        have HY := Lib.hid (front_no B' d' ds b w2 (by omega))
        go_wp2_with fail
        refine HY.out.mono ?_
        rintro e w3 ⟨rfl, rfl⟩
        go_wp2_with fail
        exact bodyPost_ret (v := .tuple #[.slice none 0 0, .slice none 0 0, .bool false]) (by simp [results, Try.results79, go_sem]) rfl (by rw [HN.out]; exact ⟨rfl, HB2w.out⟩)
      have HSP : Hid (stepP r = some (⟨a, ds.take b.toNat⟩, ds.drop b.toNat)) := Lib.hid (by unfold stepP; rw [hds, hb_, ha_, if_pos ⟨h2, h3⟩])
      have HY := Lib.hid (front_is B' d' ds b w2 h3.1 h3.2 hd9 hdl (HB9.out _ (Kd.C_below (HA.out _ HC.out) HB2w.out)))
      go_wp2_with fail
      refine HY.out.mono ?_
      rintro e w4 ⟨v12, E', e', rfl, h12, hE, he', hb4⟩
      obtain ⟨L, cl, rfl⟩ := Kd.R_slice h12
      have HB4 := Lib.hid (below_then HB2w.out HB2w.out.size hb4)
      have x0 : w4.cell? ad = some (.int .i64 a) := pw_cell_below hb4 HX0.out
      have HE := Lib.hid (fun (W : World) (h : Kd.C (Kd.int .i64) W A xs.length xs) => hE W (HB9.out W (HA.out W h)))
      have HM4 : Hid (Kd.M k78 w4 w.heap.size (fun k => w2.heap.size ≤ k) ⟨a, ds.take b.toNat⟩ [.int .i64 a, .slice L (ds.take b.toNat).length cl]) := Lib.hid (k78_mkM _ _ _ ⟨a, ds.take b.toNat⟩ (Kd.R_lower (Kd.R_mono (Kd.R_bound h12) (fun k hk => hk.2.1)) HB2w.out.size))
      have HO4 : Hid (Kd.R k78 78 w4 w.heap.size (fun k => k < wr.heap.size) u7 ps) := Lib.hid (Kd.R_below (Kd.R_below (Kd.R_mono (Kd.R_bound HO.out) (fun k hk => hk.2.2.1)) HB2.out) hb4)
      obtain ⟨Ao, co, rfl⟩ := Kd.R_slice HO4.out
      have hs2 : wr.heap.size ≤ w2.heap.size := HB2.out.size
      have hs4 : w.heap.size ≤ w4.heap.size := HB4.out.size
      have HNX : Hid (itP xs (k + 1) = some (ps ++ [⟨a, ds.take b.toNat⟩], ds.drop b.toNat)) := Lib.hid (by rw [HST.out, HSP.out]; rfl)
      clear h12 hE hb4 x1 HX0 HX HY HSP HST HFN
      generalize ds.take b.toNat = ls at HM4 HNX ⊢
      generalize ds.drop b.toNat = ms at HE HNX he' ⊢
      go_wp2_with (first | ((with_reducible refine gate_builtin (b := .append) (xs := #[.tmp 43, .tmp 49]) rfl ?_); at_builtin; refine Kd.R_append k78 (w0 := w4) w.heap.size rfl (.tmp 43) (.tmp 49) 74 78 (.agg #[.int .i64 0, .slice none 0 0]) 32 rfl Try.underlying74 info78 rfl (by decide) (by omega) (.slice Ao ps.length co) ps ⟨a, ls⟩ [.int .i64 a, .slice L ls.length cl] (fun _ => True) (fun k => w2.heap.size ≤ k) rfl rfl ?aP ?aK ?aF ?aO ?aB ?aS ?aL ?_; (case aP => exact HM4.out); (case aK => exact (fun k hk => ⟨trivial, fun e => by have := HO4.out.1 k e.symm; omega⟩)); (case aF => exact (fun _ _ => trivial)); (case aO => exact (Kd.R_mono HO4.out (fun _ _ => trivial))); (case aB => exact Below.refl _ _); (case aS => exact hs4); (case aL => (rw [HL1.out]; omega)); intro v7 w7 ho7 hb7 hg7 _; have HO7 := Lib.hid ho7; have HB7 := Lib.hid (HB4.out.trans hb7); clear ho7 hb7 hg7))
      go_roundw
      case rel => exact ⟨k + 1, _, ms, E', e', by go_num, by omega, rfl, HNX.out, HO7.out, HE.out, he', HB7.out⟩
      case measure => simp [intOf]; omega
    · have hd : decide ((k : Int) < kk) = false := decide_eq_false hlt
      have hkn : kk.toNat = k := by omega
      have HN : Hid (F = some (ps, r)) := Lib.hid (by rw [← HF.out, hkn, HI.out])
      go_wp2_with fail
      exact bodyPost_ret (v := .tuple #[u7, .slice A' r.length c', .bool true]) (by simp [results, Try.results79, go_sem]) rfl (by rw [HN.out]; exact ⟨u7, A', c', rfl, HO.out, HA.out, hc', HB.out⟩)
end Go.Proofs.Yteikgpdjfhdneaa.Man
namespace Go.Proofs.Yteikgpdjfhdneaa.Man
open Go.RowKit Go.Proofs.Yteikgpdjfhdneaa.QT Go.Proofs.YteikgpdjfhdneaaW.PrintWords Go.Proofs.YteikgpdjfhdneaaW.PrintLast Go.Proofs.YteikgpdjfhdneaaW.PrintMore
def stepG (xs : List Int) : Option (Pce × List Int) := if 3 ≤ xs.length then (pathsQ (xs.drop 3) (rd xs 2)).bind fun p => some (⟨⟨rd xs 0, rd xs 1⟩, p.1⟩, p.2) else none
def itG (xs : List Int) : Nat → Option (List Pce × List Int)
  | 0 => some ([], xs)
  | k + 1 => (itG xs k).bind fun p => (stepG p.2).bind fun q => some (p.1 ++ [q.1], q.2)
theorem itG_none (xs : List Int) (k : Nat) (h : itG xs k = none) : ∀ d, itG xs (k + d) = none
  | 0 => h
  | d + 1 => by
    show (itG xs (k + d)).bind _ = none
    rw [itG_none xs k h d]
    rfl
theorem pathsQ_len {xs : List Int} {kk : Int} {ps : List Pth} {r : List Int} (h : pathsQ xs kk = some (ps, r)) : r.length ≤ xs.length := by
  unfold pathsQ at h
  split at h
  · cases h
  · exact (itP_len xs _ ps r h).2
theorem itG_len (xs : List Int) : ∀ (k : Nat) (ps : List Pce) (r : List Int), itG xs k = some (ps, r) → ps.length = k ∧ r.length ≤ xs.length
  | 0, ps, r, h => by
    injection h with h
    simp only [Prod.mk.injEq] at h
    rw [← h.1, ← h.2]
    exact ⟨rfl, Nat.le_refl _⟩
  | k + 1, ps, r, h => by
    unfold itG at h
    cases hk : itG xs k with
    | none => rw [hk] at h; cases h
    | some p =>
      obtain ⟨ps0, r0⟩ := p
      rw [hk, Option.bind_some] at h
      obtain ⟨h1, h2⟩ := itG_len xs k ps0 r0 hk
      unfold stepG at h
      split at h
      · cases hp : pathsQ (r0.drop 3) (rd r0 2) with
        | none => rw [hp] at h; cases h
        | some q =>
          obtain ⟨q1, q2⟩ := q
          rw [hp] at h
          have hl := pathsQ_len hp
          injection h with h
          simp only [Prod.mk.injEq] at h
          rw [← h.1, ← h.2]
          refine ⟨by simp [h1], ?_⟩
          rw [List.length_drop] at hl
          omega
      · cases h
def grantQ (xs : List Int) : Option (Rp × List Int) := if 5 ≤ xs.length ∧ rd xs 4 ≤ ((xs.drop 5).length : Int) then (itG (xs.drop 5) (rd xs 4).toNat).bind fun p => some (⟨rd xs 2, rd xs 3, 0, [], 2, 0, rd xs 0, rd xs 1, 0, p.1⟩, p.2) else none
def GrantPost (w : World) (g : Option (Rp × List Int)) (e : Ending) (w' : World) : Prop :=
  match g with
  | none => e = .returned (.tuple #[.agg #[.int .i64 0, .int .i64 0, .int .i64 0, .slice none 0 0, .int .i64 0, .int .i64 0, .int .i64 0, .int .i64 0, .int .i64 0, .slice none 0 0], .bool false]) ∧ Below w.heap.size w w'
  | some p => ∃ v9 : Value, e = .returned (.tuple #[.agg #[.int .i64 p.1.fr, .int .i64 p.1.to_, .int .i64 p.1.at_, .slice none 0 0, .int .i64 p.1.kind, .int .i64 p.1.code, .int .i64 p.1.id, .int .i64 p.1.rate, .int .i64 p.1.value, v9], .bool p.2.isEmpty]) ∧ Kd.R k76 76 w' w.heap.size (fun _ => True) v9 p.1.ps ∧ Below w.heap.size w w'
theorem endG {w W W' : World} {c0 c1 c2 c3 c4 c5 c6 c7 c8 c9 : Value} {b : Bool} {Post : Ending → World → Prop} (tmps : Array Value) (hp : tmps.getD 2 undef = .pointer (some ⟨w.heap.size, 0, none⟩)) (h3 : tmps.getD 3 undef = .bool b)
    (hq : W'.heap[w.heap.size]? = some (.cells #[c0, c1, c2, c3, c4, c5, c6, c7, c8, c9] 48 (0, 0))) (hpost : Post (.returned (.tuple #[.agg #[c0, c1, c2, c3, c4, c5, c6, c7, c8, c9], .bool b])) W') :
    bodyPost Try.prog Try.f54 Post .ret { tmps := tmps, defers := [] } W' := by
  refine bodyPost_ret (v := .tuple #[.agg #[c0, c1, c2, c3, c4, c5, c6, c7, c8, c9], .bool b]) ?_ rfl hpost
  have hh := results_ct (P := Try.prog) (fn := Try.f54) (p := 2) (u := 3) (ty := 48) rfl tmps W' w.heap.size 48 #[c0, c1, c2, c3, c4, c5, c6, c7, c8, c9] (0, 0) _ hp hq Try.underlying48 rfl (by kernel_rfl)
  rw [h3] at hh
  exact hh
theorem cell_grown {a w : World} {g : Nat} (h : a.grownBy w (some g)) {ad : Addr} (hl : ad.block < a.heap.size) (hne : ad.block ≠ g) : w.cell? ad = a.cell? ad := by
  have e := h.block ad.block hl (by simp; omega)
  simp only [World.cell?, e]
theorem cell_al {w : World} {o : Obj} {a : Addr} {v : Value} (x : w.cell? a = some v) : (w.alloc o).cell? a = some v := (World.cell?_alloc_lt w o a (World.block_lt_of_cell? _ _ x)).trans x
theorem below_drew_grown {a w : World} {g : Nat} (h : a.grownBy w (some g)) : a.grownBy w.drew (some g) := ⟨h.os, h.tape, h.output, h.size, h.block⟩
theorem Lib.grownBy_refl' (w : World) (g : Nat) : w.grownBy w (some g) := ⟨rfl, rfl, rfl, Nat.le_refl _, fun _ _ _ => rfl⟩
def GrantAt (A : Option Addr) (xs ds : List Int) (a0 a1 a2 a3 : Int) (wd : World) (pb n : Nat) (x i : Value) (w' : World) : Prop := ∃ (k : Nat) (ps : List Pce) (r : List Int) (B' : Option Addr) (d' : Nat) (Av : Option Addr) (cv : Nat), i = .int .i64 (k : Int) ∧ k ≤ n ∧ x = .slice B' r.length d' ∧ itG ds k = some (ps, r) ∧ w'.heap[pb]? = some (.cells #[.int .i64 a2, .int .i64 a3, .int .i64 0, .slice none 0 0, .int .i64 2, .int .i64 0, .int .i64 a0, .int .i64 a1, .int .i64 0, .slice Av ps.length cv] 48 (0, 0)) ∧ Kd.R k76 76 w' wd.heap.size (fun _ => True) (.slice Av ps.length cv) ps ∧ (∀ W : World, Kd.C (Kd.int .i64) W A xs.length xs → Kd.C (Kd.int .i64) W B' r.length r) ∧ r.length ≤ d' ∧ wd.grownBy w' (some pb)
set_option maxHeartbeats 8000000 in
set_option maxRecDepth 100000 in
theorem readGrant_is (A : Option Addr) (c : Nat) (xs : List Int) (w : World) (hc : xs.length ≤ c) (hb : xs.length ≤ 1099511627776) (hC : Kd.C (Kd.int .i64) w A xs.length xs) :
    Calls Try.prog 54 #[.slice A xs.length c] w (GrantPost w (grantQ xs)) := by
  obtain ⟨G, hG⟩ : ∃ G, grantQ xs = G := ⟨_, rfl⟩
  have HG := Lib.hid hG
  rw [hG]
  clear hG
  have HC := Lib.hid hC
  have HA0 := Lib.hid ((Below.refl w.heap.size w).alloc (Nat.le_refl _) (.cells #[.int .i64 0, .int .i64 0, .int .i64 0, .slice none 0 0, .int .i64 0, .int .i64 0, .int .i64 0, .int .i64 0, .int .i64 0, .slice none 0 0] 48 (0, 0)))
  have HT0 := Lib.hid (blk_new w (.cells #[.int .i64 0, .int .i64 0, .int .i64 0, .slice none 0 0, .int .i64 0, .int .i64 0, .int .i64 0, .int .i64 0, .int .i64 0, .slice none 0 0] 48 (0, 0)))
  by_cases h5 : 5 ≤ xs.length
  case neg =>
    have HN : Hid (G = none) := Lib.hid (by rw [← HG.out]; unfold grantQ; rw [if_neg (fun h => h5 h.1)])
    have HX := Lib.hid (front_no A c xs 5 (w.alloc (.cells #[.int .i64 0, .int .i64 0, .int .i64 0, .slice none 0 0, .int .i64 0, .int .i64 0, .int .i64 0, .int .i64 0, .int .i64 0, .slice none 0 0] 48 (0, 0))) (Or.inr (by omega)))
    go_enter Try.func54, Try.ntmps54
    go_wp2_with fail
    refine HX.out.mono ?_
    rintro e w1 ⟨rfl, rfl⟩
    go_upto_region 3 with fail
    generalize (w.alloc (.cells #[.int .i64 0, .int .i64 0, .int .i64 0, .slice none 0 0, .int .i64 0, .int .i64 0, .int .i64 0, .int .i64 0, .int .i64 0, .slice none 0 0] 48 (0, 0))) = w1 at HA0 HT0 ⊢
    have ht := HT0.out
    have t0 := blk_cell ht 0
    have f0 := blk_frozen ht 0
    simp at t0
    have t1 := blk_cell ht 1
    have f1 := blk_frozen ht 1
    simp at t1
    have t2 := blk_cell ht 2
    have f2 := blk_frozen ht 2
    simp at t2
    have t3 := blk_cell ht 3
    have f3 := blk_frozen ht 3
    simp at t3
    have t4 := blk_cell ht 4
    have f4 := blk_frozen ht 4
    simp at t4
    have t5 := blk_cell ht 5
    have f5 := blk_frozen ht 5
    simp at t5
    have t6 := blk_cell ht 6
    have f6 := blk_frozen ht 6
    simp at t6
    have t7 := blk_cell ht 7
    have f7 := blk_frozen ht 7
    simp at t7
    have t8 := blk_cell ht 8
    have f8 := blk_frozen ht 8
    simp at t8
    have t9 := blk_cell ht 9
    have f9 := blk_frozen ht 9
    simp at t9
    clear ht
    go_wp2
    have HPU := (put10_blk w1 w.heap.size _ _ _ _ _ _ _ _ _ _ _ (.int .i64 0) (.int .i64 0) (.int .i64 0) (.slice none 0 0) (.int .i64 0) (.int .i64 0) (.int .i64 0) (.int .i64 0) (.int .i64 0) (.slice none 0 0) HT0.out)
    exact endG (W := w1) _ rfl rfl HPU.1 (by rw [HN.out]; exact ⟨rfl, HA0.out.grown HPU.2 HA0.out.size (fun k e => by injection e with e; omega)⟩)
  have HX := Lib.hid (front_is A c xs 5 (w.alloc (.cells #[.int .i64 0, .int .i64 0, .int .i64 0, .slice none 0 0, .int .i64 0, .int .i64 0, .int .i64 0, .int .i64 0, .int .i64 0, .slice none 0 0] 48 (0, 0))) (by decide) (by omega) hc hb (Kd.C_alloc hC (.cells #[.int .i64 0, .int .i64 0, .int .i64 0, .slice none 0 0, .int .i64 0, .int .i64 0, .int .i64 0, .int .i64 0, .int .i64 0, .slice none 0 0] 48 (0, 0))))
  clear hC
  have hlen5 : (xs.take 5).length = 5 := by rw [List.length_take]; omega
  have hr0 : rd (xs.take 5) 0 = rd xs 0 := by simp [rd, show 0 < xs.length by omega]
  have hr1 : rd (xs.take 5) 1 = rd xs 1 := by simp [rd]
  have hr2 : rd (xs.take 5) 2 = rd xs 2 := by simp [rd]
  have hr3 : rd (xs.take 5) 3 = rd xs 3 := by simp [rd]
  have hr4 : rd (xs.take 5) 4 = rd xs 4 := by simp [rd]
  go_enter Try.func54, Try.ntmps54
  go_wp2_with fail
  refine HX.out.mono ?_
  rintro e w1 ⟨v4, B, d, rfl, h4, hB, hd, hb1⟩
  simp only [show (5 : Int).toNat = 5 from rfl] at h4 hB hd ⊢
  have hdl : (xs.drop 5).length ≤ 1099511627776 := by rw [List.length_drop]; omega
  obtain ⟨ds, hds⟩ : ∃ ds, xs.drop 5 = ds := ⟨_, rfl⟩
  rw [hds] at hB hd hdl ⊢
  obtain ⟨C4, c4, rfl, hl4, hc4⟩ := Kd.R_reads h4
  obtain ⟨ad, e4, x4⟩ := Kd.at_int hc4 4 (by omega) (by omega)
  subst e4
  have HE : Hid (∀ i : Int, 0 ≤ i → i < 5 → w1.cell? (ad.add i.toNat) = some (.int .i64 (rd (xs.take 5) i))) := Lib.hid (fun i h0 h1 => by
    obtain ⟨ad', e', x'⟩ := Kd.at_int hc4 i h0 (by omega)
    obtain rfl : ad = ad' := by injection e'
    exact x')
  rw [hlen5]
  have HB1 := Lib.hid (HA0.out.trans (hb1.mono HA0.out.size))
  have HT1 := Lib.hid (blk_below HT0.out hb1)
  have HBB := Lib.hid hB
  clear h4 hc4 hb1 hB HA0 HT0 HX x4
  obtain ⟨n, hn⟩ : ∃ n, rd xs 4 = n := ⟨_, rfl⟩
  have x4 : w1.cell? ⟨ad.block, ad.off + 4, none⟩ = some (.int .i64 n) := by have := HE.out 4 (by decide) (by decide); rw [hr4, hn] at this; simpa [Addr.add] using this
  by_cases hbig : n ≤ (ds.length : Int)
  case neg =>
    have hbig2 : (ds.length : Int) < n := by omega
    have HN : Hid (G = none) := Lib.hid (by rw [← HG.out]; unfold grantQ; rw [if_neg (fun h => hbig (by rw [← hn, ← hds]; exact h.2))])
    go_upto_region 3 with fail
    have ht := HT1.out
    have t0 := blk_cell ht 0
    have f0 := blk_frozen ht 0
    simp at t0
    have t1 := blk_cell ht 1
    have f1 := blk_frozen ht 1
    simp at t1
    have t2 := blk_cell ht 2
    have f2 := blk_frozen ht 2
    simp at t2
    have t3 := blk_cell ht 3
    have f3 := blk_frozen ht 3
    simp at t3
    have t4 := blk_cell ht 4
    have f4 := blk_frozen ht 4
    simp at t4
    have t5 := blk_cell ht 5
    have f5 := blk_frozen ht 5
    simp at t5
    have t6 := blk_cell ht 6
    have f6 := blk_frozen ht 6
    simp at t6
    have t7 := blk_cell ht 7
    have f7 := blk_frozen ht 7
    simp at t7
    have t8 := blk_cell ht 8
    have f8 := blk_frozen ht 8
    simp at t8
    have t9 := blk_cell ht 9
    have f9 := blk_frozen ht 9
    simp at t9
    clear ht
    go_wp2
    have HPU := (put10_blk w1 w.heap.size _ _ _ _ _ _ _ _ _ _ _ (.int .i64 0) (.int .i64 0) (.int .i64 0) (.slice none 0 0) (.int .i64 0) (.int .i64 0) (.int .i64 0) (.int .i64 0) (.int .i64 0) (.slice none 0 0) HT1.out)
    exact endG (W := w1) _ rfl rfl HPU.1 (by rw [HN.out]; exact ⟨rfl, HB1.out.grown HPU.2 HB1.out.size (fun k e => by injection e with e; omega)⟩)
  have hbig2 : ¬ (ds.length : Int) < n := by omega
  obtain ⟨a0, ha0⟩ : ∃ a, rd xs 0 = a := ⟨_, rfl⟩
  obtain ⟨a1, ha1⟩ : ∃ a, rd xs 1 = a := ⟨_, rfl⟩
  obtain ⟨a2, ha2⟩ : ∃ a, rd xs 2 = a := ⟨_, rfl⟩
  obtain ⟨a3, ha3⟩ : ∃ a, rd xs 3 = a := ⟨_, rfl⟩
  have x0 : w1.cell? ad = some (.int .i64 a0) := by have := HE.out 0 (by decide) (by decide); rw [hr0, ha0] at this; simpa [Addr.add] using this
  have x1 : w1.cell? ⟨ad.block, ad.off + 1, none⟩ = some (.int .i64 a1) := by have := HE.out 1 (by decide) (by decide); rw [hr1, ha1] at this; simpa [Addr.add] using this
  have x2 : w1.cell? ⟨ad.block, ad.off + 2, none⟩ = some (.int .i64 a2) := by have := HE.out 2 (by decide) (by decide); rw [hr2, ha2] at this; simpa [Addr.add] using this
  have x3 : w1.cell? ⟨ad.block, ad.off + 3, none⟩ = some (.int .i64 a3) := by have := HE.out 3 (by decide) (by decide); rw [hr3, ha3] at this; simpa [Addr.add] using this
  go_wp2_with fail
  have hadb : ad.block < w1.heap.size := World.block_lt_of_cell? _ _ x0
  go_region_held3 (fun W => W.cell? ad = some (.int .i64 a0) ∧ W.cell? ⟨ad.block, ad.off + 1, none⟩ = some (.int .i64 a1) ∧ W.cell? ⟨ad.block, ad.off + 2, none⟩ = some (.int .i64 a2) ∧ W.cell? ⟨ad.block, ad.off + 3, none⟩ = some (.int .i64 a3))
    (first | exact ⟨x0, x1, x2, x3⟩ | exact ⟨cell_al x0, cell_al x1, cell_al x2, cell_al x3⟩)
    (fail)
  have HX1 := Lib.hid (show (w1.alloc (.cells #[.int .i64 a2, .int .i64 a3, .int .i64 0, .slice none 0 0, .int .i64 2, .int .i64 0, .int .i64 a0, .int .i64 a1, .int .i64 0, .slice none 0 0] 48 (0, 0))).drew.heap[w1.heap.size]? = some (.cells #[.int .i64 a2, .int .i64 a3, .int .i64 0, .slice none 0 0, .int .i64 2, .int .i64 0, .int .i64 a0, .int .i64 a1, .int .i64 0, .slice none 0 0] 48 (0, 0)) from blk_new w1 _)
  have HT2 := Lib.hid (show (w1.alloc (.cells #[.int .i64 a2, .int .i64 a3, .int .i64 0, .slice none 0 0, .int .i64 2, .int .i64 0, .int .i64 a0, .int .i64 a1, .int .i64 0, .slice none 0 0] 48 (0, 0))).drew.heap[w.heap.size]? = some (.cells #[.int .i64 0, .int .i64 0, .int .i64 0, .slice none 0 0, .int .i64 0, .int .i64 0, .int .i64 0, .int .i64 0, .int .i64 0, .slice none 0 0] 48 (0, 0)) from blk_alloc HT1.out _)
  have HB2 := Lib.hid (below_drew (HB1.out.alloc HB1.out.size (.cells #[.int .i64 a2, .int .i64 a3, .int .i64 0, .slice none 0 0, .int .i64 2, .int .i64 0, .int .i64 a0, .int .i64 a1, .int .i64 0, .slice none 0 0] 48 (0, 0))))
  have HX4 : Hid ((w1.alloc (.cells #[.int .i64 a2, .int .i64 a3, .int .i64 0, .slice none 0 0, .int .i64 2, .int .i64 0, .int .i64 a0, .int .i64 a1, .int .i64 0, .slice none 0 0] 48 (0, 0))).drew.cell? ⟨ad.block, ad.off + 4, none⟩ = some (.int .i64 n)) := Lib.hid (cell_al x4)
  obtain ⟨pb, hpb⟩ : ∃ pb, w1.heap.size = pb := ⟨_, rfl⟩
  have hpw : pb < (w1.alloc (.cells #[.int .i64 a2, .int .i64 a3, .int .i64 0, .slice none 0 0, .int .i64 2, .int .i64 0, .int .i64 a0, .int .i64 a1, .int .i64 0, .slice none 0 0] 48 (0, 0))).drew.heap.size := by rw [← hpb]; exact (by simp : w1.heap.size < (w1.alloc (.cells #[.int .i64 a2, .int .i64 a3, .int .i64 0, .slice none 0 0, .int .i64 2, .int .i64 0, .int .i64 a0, .int .i64 a1, .int .i64 0, .slice none 0 0] 48 (0, 0))).heap.size)
  have hwp : w.heap.size < pb := by rw [← hpb]; exact blk_lt HT1.out
  have hap : ad.block < pb := by rw [← hpb]; exact hadb
  rw [hpb] at HX1 ⊢
  have HIT : Hid (∀ F, itG ds n.toNat = F → G = F.bind fun p => some (⟨a2, a3, 0, [], 2, 0, a0, a1, 0, p.1⟩, p.2)) := Lib.hid (fun F hF => by
    rw [← HG.out]
    unfold grantQ
    rw [if_pos ⟨h5, by rw [hn, hds]; exact hbig⟩, hn, hds, hF, ha0, ha1, ha2, ha3])
  clear x0 x1 x2 x3 x4 HT1 HB1 HE hpb
  generalize (w1.alloc (.cells #[.int .i64 a2, .int .i64 a3, .int .i64 0, .slice none 0 0, .int .i64 2, .int .i64 0, .int .i64 a0, .int .i64 a1, .int .i64 0, .slice none 0 0] 48 (0, 0))).drew = wd at HX1 HT2 HB2 HX4 hpw ⊢
  have HXd := HX4
  clear HX4
  go_wp2_with fail
  go_loopw [5, 8] (fun x i w' => GrantAt A xs ds a0 a1 a2 a3 wd pb n.toNat x i w') (fun _ i _ => n.toNat - (intOf i).toNat)
  case atStart => exact ⟨0, [], ds, B, d, none, 0, rfl, Nat.zero_le _, rfl, rfl, HX1.out, Kd.R_nil _ _ _ _ _, HBB.out, hd, Lib.grownBy_refl' wd pb⟩
  case round =>
    obtain ⟨k, ps, r, B', d', Av, cv, rfl, hk, rfl, hit, hxb, ho, hA, hd', hg⟩ := hrel
    have HO := Lib.hid ho
    have HXB := Lib.hid hxb
    have HA := Lib.hid hA
    have HI := Lib.hid hit
    have HGB := Lib.hid hg
    have HTR := Lib.hid (blk_grown HT2.out hg (by simp; omega))
    have HBR := Lib.hid (HB2.out.grown hg HB2.out.size (fun k e => by injection e with e; omega))
    have x4 : wr.cell? ⟨ad.block, ad.off + 4, none⟩ = some (.int .i64 n) := (cell_grown (ad := ⟨ad.block, ad.off + 4, none⟩) hg (Nat.lt_trans hap hpw) (Nat.ne_of_lt hap)).trans HXd.out
    obtain ⟨hl1, hl2⟩ := itG_len ds k ps r hit
    have HL1 := Lib.hid hl1
    have hsz := hg.size
    clear ho hxb hA hit hg hl1
    by_cases hlt : (k : Int) < n
    · have hdd : decide ((k : Int) < n) = true := decide_eq_true hlt
      have HST : Hid (itG ds (k + 1) = (stepG r).bind fun q => some (ps ++ [q.1], q.2)) := Lib.hid (by rw [itG, HI.out]; rfl)
      have HFN : Hid (stepG r = none → G = none) := Lib.hid (fun h => by
        have h0 : itG ds n.toNat = none := by
          rw [show n.toNat = (k + 1) + (n.toNat - (k + 1)) by omega]
          exact itG_none ds (k + 1) (by rw [HST.out, h]; rfl) _
        exact HIT.out none h0)
      by_cases h3 : 3 ≤ r.length
      case neg =>
        have HN := Lib.hid (HFN.out (by unfold stepG; rw [if_neg h3]))
        have HX := Lib.hid (front_no B' d' r 3 wr (Or.inr (by omega)))
        go_wp2_with fail
        refine HX.out.mono ?_
        rintro e w2 ⟨rfl, rfl⟩
        have ht := HTR.out
        have t0 := blk_cell ht 0
        have f0 := blk_frozen ht 0
        simp at t0
        have t1 := blk_cell ht 1
        have f1 := blk_frozen ht 1
        simp at t1
        have t2 := blk_cell ht 2
        have f2 := blk_frozen ht 2
        simp at t2
        have t3 := blk_cell ht 3
        have f3 := blk_frozen ht 3
        simp at t3
        have t4 := blk_cell ht 4
        have f4 := blk_frozen ht 4
        simp at t4
        have t5 := blk_cell ht 5
        have f5 := blk_frozen ht 5
        simp at t5
        have t6 := blk_cell ht 6
        have f6 := blk_frozen ht 6
        simp at t6
        have t7 := blk_cell ht 7
        have f7 := blk_frozen ht 7
        simp at t7
        have t8 := blk_cell ht 8
        have f8 := blk_frozen ht 8
        simp at t8
        have t9 := blk_cell ht 9
        have f9 := blk_frozen ht 9
        simp at t9
        clear ht
        go_wp2
        have HPU := (put10_blk w2 w.heap.size _ _ _ _ _ _ _ _ _ _ _ (.int .i64 0) (.int .i64 0) (.int .i64 0) (.slice none 0 0) (.int .i64 0) (.int .i64 0) (.int .i64 0) (.int .i64 0) (.int .i64 0) (.slice none 0 0) HTR.out)
        exact endG (W := w2) _ rfl rfl HPU.1 (by rw [HN.out]; exact ⟨rfl, HBR.out.grown HPU.2 HBR.out.size (fun k e => by injection e with e; omega)⟩)
      have HX := Lib.hid (front_is B' d' r 3 wr (by decide) (by omega) hd' (by omega) (Kd.C_below (HA.out _ HC.out) HBR.out))
      have hlen3 : (r.take 3).length = 3 := by rw [List.length_take]; omega
      have hq0 : rd (r.take 3) 0 = rd r 0 := by simp [rd, show 0 < r.length by omega]
      have hq1 : rd (r.take 3) 1 = rd r 1 := by simp [rd]
      have hq2 : rd (r.take 3) 2 = rd r 2 := by simp [rd]
      go_wp2_with fail
      refine HX.out.mono ?_
      rintro e w2 ⟨v9, E, ee, rfl, h9, hE, hee, hb2⟩
      simp only [show (3 : Int).toNat = 3 from rfl] at h9 hE hee ⊢
      have hel : (r.drop 3).length ≤ 1099511627776 := by rw [List.length_drop]; omega
      obtain ⟨es, hes⟩ : ∃ es, r.drop 3 = es := ⟨_, rfl⟩
      rw [hes] at hE hee hel ⊢
      obtain ⟨C9, c9, rfl, hl9, hc9⟩ := Kd.R_reads h9
      obtain ⟨ad2, e9, y2⟩ := Kd.at_int hc9 2 (by omega) (by omega)
      subst e9
      obtain ⟨ad', e9', y1⟩ := Kd.at_int hc9 1 (by omega) (by omega)
      obtain rfl : ad2 = ad' := by injection e9'
      obtain ⟨ad', e9', y0⟩ := Kd.at_int hc9 0 (by omega) (by omega)
      obtain rfl : ad2 = ad' := by injection e9'
      rw [hq2] at y2
      rw [hq1] at y1
      rw [hq0] at y0
      rw [hlen3]
      obtain ⟨b2, hb2_⟩ : ∃ b, rd r 2 = b := ⟨_, rfl⟩
      obtain ⟨b1, hb1_⟩ : ∃ b, rd r 1 = b := ⟨_, rfl⟩
      obtain ⟨b0, hb0_⟩ : ∃ b, rd r 0 = b := ⟨_, rfl⟩
      rw [hb2_] at y2
      rw [hb1_] at y1
      rw [hb0_] at y0
      have y2 : w2.cell? ⟨ad2.block, ad2.off + 2, none⟩ = some (.int .i64 b2) := by simpa [Addr.add] using y2
      have HY1 : Hid (w2.cell? ⟨ad2.block, ad2.off + 1, none⟩ = some (.int .i64 b1)) := Lib.hid (by simpa [Addr.add] using y1)
      have HY0 : Hid (w2.cell? ad2 = some (.int .i64 b0)) := Lib.hid (by simpa [Addr.add] using y0)
      have HB2' := Lib.hid (below_then HBR.out HBR.out.size hb2)
      have HE := Lib.hid hE
      have HB2r := Lib.hid hb2
      have HZ := readPaths_is E ee es b2 w2 hee hel (hE _ (Kd.C_below (HA.out _ HC.out) HB2'.out))
      clear y0 y1 h9 hc9 hb2 hE HX e9'
      cases hq : pathsQ es b2 with
      | none =>
        have HN := Lib.hid (HFN.out (by unfold stepG; rw [if_pos h3, hes, hb2_, hq]; rfl))
        rw [hq] at HZ
        have HZ := Lib.hid HZ
        clear x4
        go_wp2_with fail
        refine HZ.out.mono ?_
        rintro e w3 ⟨rfl, hb3⟩
        have HT3 := Lib.hid (blk_below (blk_below HTR.out HB2r.out) hb3)
        have HB3 := Lib.hid (below_then HB2'.out HB2'.out.size hb3)
        clear hb3 y2
        have ht := HT3.out
        have t0 := blk_cell ht 0
        have f0 := blk_frozen ht 0
        simp at t0
        have t1 := blk_cell ht 1
        have f1 := blk_frozen ht 1
        simp at t1
        have t2 := blk_cell ht 2
        have f2 := blk_frozen ht 2
        simp at t2
        have t3 := blk_cell ht 3
        have f3 := blk_frozen ht 3
        simp at t3
        have t4 := blk_cell ht 4
        have f4 := blk_frozen ht 4
        simp at t4
        have t5 := blk_cell ht 5
        have f5 := blk_frozen ht 5
        simp at t5
        have t6 := blk_cell ht 6
        have f6 := blk_frozen ht 6
        simp at t6
        have t7 := blk_cell ht 7
        have f7 := blk_frozen ht 7
        simp at t7
        have t8 := blk_cell ht 8
        have f8 := blk_frozen ht 8
        simp at t8
        have t9 := blk_cell ht 9
        have f9 := blk_frozen ht 9
        simp at t9
        clear ht
        go_wp2
        have HPU := (put10_blk w3 w.heap.size _ _ _ _ _ _ _ _ _ _ _ (.int .i64 0) (.int .i64 0) (.int .i64 0) (.slice none 0 0) (.int .i64 0) (.int .i64 0) (.int .i64 0) (.int .i64 0) (.int .i64 0) (.slice none 0 0) HT3.out)
        exact endG (W := w3) _ rfl rfl HPU.1 (by rw [HN.out]; exact ⟨rfl, HB3.out.grown HPU.2 HB3.out.size (fun k e => by injection e with e; omega)⟩)
      | some p =>
        obtain ⟨qs, ms⟩ := p
        have HSP : Hid (stepG r = some (⟨⟨b0, b1⟩, qs⟩, ms)) := Lib.hid (by unfold stepG; rw [if_pos h3, hes, hb2_, hq, hb0_, hb1_]; rfl)
        have HNX : Hid (itG ds (k + 1) = some (ps ++ [⟨⟨b0, b1⟩, qs⟩], ms)) := Lib.hid (by rw [HST.out, HSP.out]; rfl)
        rw [hq] at HZ
        have HZ := Lib.hid HZ
        clear x4 hq
        go_wp2_with fail
        refine HZ.out.mono ?_
        rintro e w3 ⟨v12, E', e', rfl, h12, hE', he', hb3⟩
        obtain ⟨L, cl, rfl⟩ := Kd.R_slice h12
        dsimp only at h12 hE' he' ⊢
        have y0 : w3.cell? ad2 = some (.int .i64 b0) := pw_cell_below hb3 HY0.out
        have y1 : w3.cell? ⟨ad2.block, ad2.off + 1, none⟩ = some (.int .i64 b1) := pw_cell_below hb3 HY1.out
        have hx3 := blk_below (blk_below HXB.out HB2r.out) hb3
        have HX3 := Lib.hid hx3
        have p9 := blk_cell hx3 9
        simp at p9
        have hyl : ad2.block < w3.heap.size := World.block_lt_of_cell? _ _ y0
        have hpl : pb < w3.heap.size := blk_lt hx3
        have HTR3 := Lib.hid (blk_below (blk_below HTR.out HB2r.out) hb3)
        have HG3 := Lib.hid (below_drew_grown (grown_below (grown_below HGB.out HB2r.out) hb3))
        have HF := Lib.hid (fun (W : World) (h : Kd.C (Kd.int .i64) W A xs.length xs) => hE' W (HE.out W (HA.out W h)))
        have hs2 : wr.heap.size ≤ w2.heap.size := HB2r.out.size
        have hs3 : w2.heap.size ≤ w3.heap.size := hb3.size
        have HM3 : Hid (Kd.M k76 w3.drew wd.heap.size (fun k => w2.heap.size ≤ k) ⟨⟨b0, b1⟩, qs⟩ [.int .i64 b0, .int .i64 b1, .slice L qs.length cl]) := Lib.hid (k76_mkM _ _ _ ⟨⟨b0, b1⟩, qs⟩ (Kd.R_drew (Kd.R_lower (Kd.R_mono (Kd.R_bound h12) (fun k hk => hk.2.1)) (by omega))))
        have HO3 : Hid (Kd.R k76 76 w3.drew wd.heap.size (fun k => k < wr.heap.size) (.slice Av ps.length cv) ps) := Lib.hid (Kd.R_drew (Kd.R_below (Kd.R_below (Kd.R_mono (Kd.R_bound HO.out) (fun k hk => hk.2.2.1)) HB2r.out) hb3))
        have HSZ : Hid (w3.drew.heap.size = w3.heap.size) := Lib.hid rfl
        clear h12 hE' hb3 hx3 HZ HY0 HY1 HSP HST HFN y2 HO
        go_wp2_with fail
        go_region_law (refine Kd.R_append_step k76 (w0 := w3.drew) (W := w3.drew) wd.heap.size (by rfl) (.tmp 75) (.tmp 85) 46 76 (.agg #[.int .i64 0, .int .i64 0, .slice none 0 0]) 40 rfl Try.underlying46 info76 rfl (by decide) (by omega) (.slice Av ps.length cv) ps ⟨⟨b0, b1⟩, qs⟩ [.int .i64 b0, .int .i64 b1, .slice L qs.length cl] (fun _ => True) (fun k => w2.heap.size ≤ k) rfl rfl ?aP ?aK ?aF ?aO ?aB ?aS ?aL ?_; (case aP => exact HM3.out); (case aK => exact (fun k hk => ⟨trivial, fun e => by have := HO3.out.1 k e.symm; omega⟩)); (case aF => exact (fun _ _ => trivial)); (case aO => exact (Kd.R_mono HO3.out (fun _ _ => trivial))); (case aB => exact Below.refl _ _); (case aS => (rw [HSZ.out]; omega)); (case aL => (rw [HL1.out]; omega)); intro v7 w7 ho7 hb7 hg7 _; obtain ⟨A7, c7, rfl⟩ := Kd.R_slice ho7; generalize ps ++ [(⟨⟨b0, b1⟩, qs⟩ : Pce)] = ps7 at HNX ho7; have HO7 := Lib.hid ho7; have HG7 := Lib.hid hg7; have hp7 := blk_grown (show w3.drew.heap[pb]? = _ from HX3.out) hg7 (Kd.R_ne HO3.out (show w3.drew.heap[pb]? = _ from HX3.out) (by decide)); have HP7 := Lib.hid hp7; have f79 := blk_frozen hp7 9; have p79 := blk_cell hp7 9; simp at p79; clear ho7 hb7 hg7 hp7)
        all_goals (go_wp2_with fail)
        all_goals
          have HS7 : Hid (w7.grownBy (w7.setCell ⟨pb, 9, none⟩ (.slice A7 ps7.length c7)) (some pb)) := Lib.hid (Lib.grownBy_setCell w7 pb 9 _)
          have HY7 : Hid (Kd.R k76 76 (w7.setCell ⟨pb, 9, none⟩ (.slice A7 ps7.length c7)) wd.heap.size (fun _ => True) (.slice A7 ps7.length c7) ps7) := Lib.hid (Kd.R_mono (Kd.R_far (Kd.R_types HO7.out HP7.out (by decide)) (fun k hk => hk.2) _) (fun _ _ => trivial))
          refine ⟨⟨k + 1, ps7, ms, E', e', A7, c7, by go_num, by omega, rfl, HNX.out, by simpa using blk_set HP7.out 9 (.slice A7 ps7.length c7), HY7.out, HF.out, he', grown_then (grown_then HG3.out HG7.out (fun k e => .inl (own_ge HO3.out k e))) HS7.out (fun k e => .inr (by injection e with e; exact e.symm))⟩, by simp [intOf]; omega⟩
    · have hdd : decide ((k : Int) < n) = false := decide_eq_false hlt
      have hkn : n.toNat = k := by omega
      have HN := Lib.hid (HIT.out (some (ps, r)) (by rw [hkn, HI.out]))
      have hxb := HXB.out
      obtain ⟨m, hm⟩ : ∃ m, ps.length = m := ⟨_, rfl⟩
      have HO9 := HO
      rw [hm] at hxb HO9
      obtain ⟨l, hl⟩ : ∃ l, r.length = l := ⟨_, rfl⟩
      rw [hl]
      have HRE : Hid (((l : Int) == 0) = r.isEmpty) := Lib.hid (by rw [← hl]; cases r <;> simp; omega)
      have p0 := blk_cell hxb 0
      simp at p0
      have p1 := blk_cell hxb 1
      simp at p1
      have p2 := blk_cell hxb 2
      simp at p2
      have p3 := blk_cell hxb 3
      simp at p3
      have p4 := blk_cell hxb 4
      simp at p4
      have p5 := blk_cell hxb 5
      simp at p5
      have p6 := blk_cell hxb 6
      simp at p6
      have p7 := blk_cell hxb 7
      simp at p7
      have p8 := blk_cell hxb 8
      simp at p8
      have p9 := blk_cell hxb 9
      simp at p9
      clear hxb hm hl hl2
      have ht := HTR.out
      have t0 := blk_cell ht 0
      have f0 := blk_frozen ht 0
      simp at t0
      have t1 := blk_cell ht 1
      have f1 := blk_frozen ht 1
      simp at t1
      have t2 := blk_cell ht 2
      have f2 := blk_frozen ht 2
      simp at t2
      have t3 := blk_cell ht 3
      have f3 := blk_frozen ht 3
      simp at t3
      have t4 := blk_cell ht 4
      have f4 := blk_frozen ht 4
      simp at t4
      have t5 := blk_cell ht 5
      have f5 := blk_frozen ht 5
      simp at t5
      have t6 := blk_cell ht 6
      have f6 := blk_frozen ht 6
      simp at t6
      have t7 := blk_cell ht 7
      have f7 := blk_frozen ht 7
      simp at t7
      have t8 := blk_cell ht 8
      have f8 := blk_frozen ht 8
      simp at t8
      have t9 := blk_cell ht 9
      have f9 := blk_frozen ht 9
      simp at t9
      clear ht
      go_wp2
      have HPU := (put10_blk wr w.heap.size _ _ _ _ _ _ _ _ _ _ _ (.int .i64 a2) (.int .i64 a3) (.int .i64 0) (.slice none 0 0) (.int .i64 2) (.int .i64 0) (.int .i64 a0) (.int .i64 a1) (.int .i64 0) (.slice Av m cv) HTR.out)
      have HK9 := Kd.R_lower (keepR HO9.out HTR.out HPU.2 (by decide)) (base' := w.heap.size) (by omega)
      exact endG (W := wr) (b := ((l : Int) == 0)) _ rfl rfl HPU.1 (by rw [HN.out, HRE.out]; exact ⟨.slice Av m cv, rfl, HK9, HBR.out.grown HPU.2 HBR.out.size (fun k e => by injection e with e; omega)⟩)
end Go.Proofs.Yteikgpdjfhdneaa.Man
