/- Texts of this claim laid together: TreeZb, TreeZc, TreeZd, QA8, TreeZe, TreeZf, Open. -/
import Derived.Test.YtgkjpffbgnljeaaCc
import Derived.Test.YtgkjpffbgnljeaaCa
import Derived.Test.YtgkjpffbgnljeaaRows
import Derived.OpenShut
import Derived.WideShapes
import Derived.SizedLaws
import Derived.Below
import Derived.Deep.Draws
import Derived.Deep.AppendLies
import Derived.Maps.AppendAt
import Derived.OwnWalk
import Derived.Laws.BytesArg
import Derived.Laws.MakeOwn
import Derived.Laws.OwnMore
import Derived.Deep.OwnRows
import Derived.Tactics
import Derived.Lib.ConvBytes
import Derived.Laws.Slices
import Derived.WalkKit
import Derived.KernelRfl
import Derived.RowKit3
import Derived.Deep.LoopGhost
import Derived.Deep.QuietTactic
import Derived.BigQuiet
import Derived.WideLaws
import Derived.Deep.DeepCutAuto
import Derived.Deep.CutBlock
import Derived.Deep.RegionHeld3
import Derived.Laws.Rows
import Derived.Lib.AppendStr
import Derived.ArgAppend
import Derived.Laws.IdiomCopy
import Derived.OrdersHeld
import Derived.Laws.BitsLemmas
import Derived.RowKit
/- slices.Clip, tree.Points: what they answer, and that the calls answer so. -/
set_option linter.unusedVariables false
set_option linter.unusedSimpArgs false
namespace Go.Proofs.Ytgkjpffbgnljeaa.Man
open Go.RowKit Go.Proofs.Ytgkjpffbgnljeaa.QT Go.Proofs.Ytgkjpffbgnljeaa.TreeM Go.Proofs.YtgkjpffbgnljeaaW.PrintWords Go.Proofs.YtgkjpffbgnljeaaW.PrintLast Go.Proofs.YtgkjpffbgnljeaaW.PrintMore
theorem clip_is (A : Option Addr) (n c : Nat) (w : World) (hA : A = none → n = 0) (h : n ≤ c) (hn : n ≤ 281474976710656) : Calls Try.prog 50 #[.slice A n c] w fun e w' => e = .returned (.slice A n n) ∧ w' = w := by
 have h1 : (0 : Int) ≤ (n : Int) := by omega
 have h2 : (n : Int) ≤ (c : Int) := by omega
 cases A with
 | none =>
  have h0 := hA rfl
  subst h0
  clear hA
  go_enter Try.func50, Try.ntmps50
  go_wp2
  go_ret
  exact ⟨rfl, rfl⟩
 | some ad =>
  clear hA
  go_enter Try.func50, Try.ntmps50
  go_wp2
  go_ret
  exact ⟨rfl, rfl⟩
def inF (s0 s1 p : Int) : Bool := decide (s0 < p) && decide (p < s1)
def ptsOf (s0 s1 : Int) (xs : List Itm) : List Int := xs.flatMap (fun x => [x.fr, x.to_].filter (inF s0 s1))
theorem ptsOf_snoc (s0 s1 : Int) (xs : List Itm) (x : Itm) : ptsOf s0 s1 (xs ++ [x]) = ptsOf s0 s1 xs ++ [x.fr, x.to_].filter (inF s0 s1) := by simp [ptsOf]
theorem ptsOf_le (s0 s1 : Int) : ∀ xs : List Itm, (ptsOf s0 s1 xs).length ≤ 2 * xs.length
 | [] => by simp [ptsOf]
 | x :: xs => by
  have := ptsOf_le s0 s1 xs
  have h2 := List.length_filter_le (inF s0 s1) [x.fr, x.to_]
  simp only [ptsOf, List.flatMap_cons, List.length_append, List.length_cons, List.length_nil] at *
  omega
def pointsF1 (s0 s1 : Int) (xs : List Itm) : List Int := uniqF (sortF (ptsOf s0 s1 xs))
noncomputable def pointsF (ns : List Nd) (root : Int) (fr : List Int) (s0 s1 : Int) : List Int × Int := if mayT (cellN ns) ns.length root fr = true ∧ mayF s0 s1 = true then (pointsF1 s0 s1 (meetsT s0 s1 (treeOf (cellN ns) ns.length root fr)), 0) else ([], 1700)
theorem pointsF_yes {ns : List Nd} {root : Int} {fr : List Int} {s0 s1 : Int} {t : T} (h : IsT (cellN ns) ns.length root fr t) (hs : mayF s0 s1 = true) : pointsF ns root fr s0 s1 = (pointsF1 s0 s1 (meetsT s0 s1 t), 0) := by unfold pointsF; rw [if_pos ⟨mayT_true.2 ⟨t, h⟩, hs⟩, treeOf_is h]
theorem pointsF_no {ns : List Nd} {root : Int} {fr : List Int} {s0 s1 : Int} (h : ¬ (mayT (cellN ns) ns.length root fr = true ∧ mayF s0 s1 = true)) : pointsF ns root fr s0 s1 = ([], 1700) := by unfold pointsF; rw [if_neg h]
theorem R_foot {W : World} {base : Nat} {A : Option Addr} {n c : Nat} {xs : List Int} (h : Kd.R (Kd.int .i64) 3 W base (fun _ => True) (.slice A n c) xs) : Kd.F (Kd.int .i64) W (fun k => base ≤ k) A n xs := by
 intro W' hm
 have h2 := Kd.R_step (Kd.R_mono (ok' := fun k => base ≤ k) (Kd.R_bound h) (fun k hk => hk.2.1)) (fun k hk hlt => hm k hk hlt)
 obtain ⟨A', c', e, _, hC⟩ := Kd.R_reads h2
 injection e with e1 e2 e3
 subst e1 e2 e3
 exact hC
set_option maxHeartbeats 8000000 in
set_option maxRecDepth 100000 in
theorem points_tree (A : Option Addr) (c : Nat) (ns : List Nd) (root : Int) (F : Option Addr) (cf : Nat) (fr : List Int) (s0 s1 : Int) (w : World) (hr : Kd.C k64 w A ns.length ns) (hf : Kd.C (Kd.int .i64) w F fr.length fr) (hlf : fr.length ≤ 281474976710656) :
  Calls Try.prog 15 #[.agg #[.slice A ns.length c, .int .i64 root, .slice F fr.length cf], .agg #[.int .i64 s0, .int .i64 s1]] w fun e w' => ∃ A', e = .returned (.tuple #[.slice A' (pointsF ns root fr s0 s1).1.length (pointsF ns root fr s0 s1).1.length, .int .i64 (pointsF ns root fr s0 s1).2]) ∧ Kd.F (Kd.int .i64) w' (fun k => w.heap.size ≤ k) A' (pointsF ns root fr s0 s1).1.length (pointsF ns root fr s0 s1).1 ∧ Below w.heap.size w w' := by
 have HB : Hid (Below w.heap.size w ((w.alloc (.cells #[.slice A ns.length c, .int .i64 root, .slice F fr.length cf] 25)).alloc (.cells #[.int .i64 s0, .int .i64 s1] 27))) := Lib.hid (below_alloc ((Below.refl _ _).alloc (Nat.le_refl _) _) _)
 have HT : Hid (((w.alloc (.cells #[.slice A ns.length c, .int .i64 root, .slice F fr.length cf] 25)).alloc (.cells #[.int .i64 s0, .int .i64 s1] 27)).heap[w.heap.size]? = some (.cells #[.slice A ns.length c, .int .i64 root, .slice F fr.length cf] 25 (0, 0))) := Lib.hid (blk_alloc (blk_new w (.cells #[.slice A ns.length c, .int .i64 root, .slice F fr.length cf] 25 (0, 0))) _)
 have HS : Hid (((w.alloc (.cells #[.slice A ns.length c, .int .i64 root, .slice F fr.length cf] 25)).alloc (.cells #[.int .i64 s0, .int .i64 s1] 27)).heap[w.heap.size + 1]? = some (.cells #[.int .i64 s0, .int .i64 s1] 27 (0, 0))) := Lib.hid (by have := blk_new (w.alloc (.cells #[.slice A ns.length c, .int .i64 root, .slice F fr.length cf] 25)) (.cells #[.int .i64 s0, .int .i64 s1] 27 (0, 0)); simpa using this)
 have HM := Lib.hid (meets_tree A c ns root F cf fr s0 s1 ((w.alloc (.cells #[.slice A ns.length c, .int .i64 root, .slice F fr.length cf] 25)).alloc (.cells #[.int .i64 s0, .int .i64 s1] 27)) (Kd.C_below hr HB.out) (Kd.C_below hf HB.out) hlf)
 have p0 := blk_cell HT.out 0
 have p1 := blk_cell HT.out 1
 have p2 := blk_cell HT.out 2
 have q0 := blk_cell HS.out 0
 have q1 := blk_cell HS.out 1
 simp at p0 p1 p2 q0 q1
 clear hr hf
 by_cases hok : mayT (cellN ns) ns.length root fr = true ∧ mayF s0 s1 = true
 case neg =>
  have HV := Lib.hid (pointsF_no hok)
  rw [meetsF_no hok] at HM
  clear hok
  rw [HV.out]
  go_enter Try.func15, Try.ntmps15
  go_wp2_with fail
  generalize ((w.alloc (.cells #[.slice A ns.length c, .int .i64 root, .slice F fr.length cf] 25)).alloc (.cells #[.int .i64 s0, .int .i64 s1] 27)) = w3 at *
  refine HM.out.mono ?_
  rintro e w4 ⟨v4, rfl, hr4, hb4⟩
  replace HT := Lib.hid (blk_below HT.out hb4)
  replace HS := Lib.hid (blk_below HS.out hb4)
  replace HB := Lib.hid (below_then HB.out HB.out.size hb4)
  clear hb4
  clear HM p0 p1 p2 q0 q1
  obtain ⟨Av, cv, ev⟩ := Kd.R_slice hr4
  subst ev
  clear hr4
  go_wp2_with fail
  go_ret2
  exact ⟨none, rfl, R_foot (Kd.R_nil _ _ _ _ _), HB.out⟩
 case pos =>
  obtain ⟨t, ht⟩ := mayT_true.1 hok.1
  have HV := Lib.hid (pointsF_yes ht hok.2)
  rw [meetsF_yes ht hok.2] at HM
  have hxl : (meetsT s0 s1 t).length ≤ 32 := Nat.le_trans (List.length_filter_le _ _) ht.items_le
  clear hok ht
  rw [HV.out]
  generalize meetsT s0 s1 t = xs at *
  go_enter Try.func15, Try.ntmps15
  go_wp2_with fail
  generalize ((w.alloc (.cells #[.slice A ns.length c, .int .i64 root, .slice F fr.length cf] 25)).alloc (.cells #[.int .i64 s0, .int .i64 s1] 27)) = w3 at *
  refine HM.out.mono ?_
  rintro e w4 ⟨v4, rfl, hr4, hb4⟩
  replace HT := Lib.hid (blk_below HT.out hb4)
  replace HS := Lib.hid (blk_below HS.out hb4)
  replace HB := Lib.hid (below_then HB.out HB.out.size hb4)
  clear hb4
  clear HM p0 p1 p2 q0 q1 HT
  obtain ⟨Av, cv, ev, hcv, hC4⟩ := Kd.R_reads hr4
  subst ev
  have hml : (xs.map toI).length = xs.length := List.length_map ..
  rw [hml] at hcv hC4 ⊢
  have HC4 := Lib.hid hC4
  have HBB : Hid (w.heap.size ≤ w4.heap.size) := Lib.hid HB.out.size
  clear hr4 hC4 hml HV
  go_wp2_with fail
  go_loopg [8, 24] xs.length (fun g v i wr => ∃ k : Nat, k ≤ xs.length ∧ g = xs.length - k ∧ i = .int .i64 (k : Int) ∧ Kd.R (Kd.int .i64) 3 wr w4.heap.size (fun _ => True) v (ptsOf s0 s1 (xs.take k)) ∧ Below w4.heap.size w4 wr)
  case atStart => exact ⟨0, Nat.zero_le _, rfl, rfl, Kd.R_nil _ _ _ _ _, Below.refl _ _⟩
  case round =>
   obtain ⟨k, hk, hgk, rfl, hrk, hbk⟩ := hrel
   have HRK := Lib.hid hrk
   have HBK := Lib.hid hbk
   have HGK := Lib.hid hgk
   clear hrk hbk hgk
   obtain ⟨A8, c8, e8⟩ := Kd.R_slice HRK.out
   subst e8
   by_cases hlt : k < xs.length
   case neg =>
    have hd : decide ((k : Int) < (xs.length : Int)) = false := decide_eq_false (by omega)
    have hxk : xs.take k = xs := List.take_of_length_le (by omega)
    rw [hxk] at HRK ⊢
    have HLP : Hid ((ptsOf s0 s1 xs).length ≤ 64) := Lib.hid (by have := ptsOf_le s0 s1 xs; omega)
    have HSO := Lib.hid (sort_row _ _ _ _ _ wr HRK.out (by have := HLP.out; omega))
    clear hxk hk
    go_wp2_with fail
    refine HSO.out.mono ?_
    rintro e w5 ⟨rfl, hr5, hg5⟩
    have HB5 : Hid (Below w4.heap.size w4 w5) := Lib.hid (pw_below_grown HBK.out _ HBK.out.size hg5 (fun k e => by obtain ⟨inner, ho⟩ := Kd.R_own HRK.out; exact own_base ho k e))
    have HLS : Hid ((sortF (ptsOf s0 s1 xs)).length ≤ 64) := Lib.hid (by rw [sortF_length]; exact HLP.out)
    have HSL : Hid ((sortF (ptsOf s0 s1 xs)).length = (ptsOf s0 s1 xs).length) := Lib.hid (sortF_length _)
    have HCO := Lib.hid (compact_row _ _ _ _ _ w5 hr5 (by have := HLS.out; omega))
    have HR5 := Lib.hid hr5
    clear hr5 hg5 HSO
    go_wp2_with fail
    refine HCO.out.mono ?_
    rintro e w6 ⟨v6, rfl, hr6, hg6, _⟩
    have HB6 : Hid (Below w4.heap.size w4 w6) := Lib.hid (pw_below_grown HB5.out _ HB5.out.size hg6 (fun k e => by obtain ⟨inner, ho⟩ := Kd.R_own HR5.out; exact own_base ho k e))
    obtain ⟨A6, c6, e6, hc6, hC6⟩ := Kd.R_reads hr6
    subst e6
    have HR6 := Lib.hid hr6
    have HLU : Hid ((uniqF (sortF (ptsOf s0 s1 xs))).length ≤ 64) := Lib.hid (by have := uniqF_le (sortF (ptsOf s0 s1 xs)); have := HLS.out; omega)
    have HCL := Lib.hid (clip_is A6 (uniqF (sortF (ptsOf s0 s1 xs))).length c6 w6 (fun e => by
     by_cases h0 : 0 < (uniqF (sortF (ptsOf s0 s1 xs))).length
     ·obtain ⟨ad, e2, _⟩ := hC6.2.2 h0
      rw [e] at e2; cases e2
     ·omega) hc6 (by have := HLU.out; omega))
    clear hr6 hg6 hC6 HCO
    go_wp2_with fail
    refine HCL.out.mono ?_
    rintro e w7 ⟨rfl, rfl⟩
    have HFF : Hid (Kd.F (Kd.int .i64) w7 (fun k => w.heap.size ≤ k) A6 (pointsF1 s0 s1 xs).length (pointsF1 s0 s1 xs)) := Lib.hid (R_foot (Kd.R_lower HR6.out HBB.out))
    have HBF : Hid (Below w.heap.size w w7) := Lib.hid (below_then HB.out HB.out.size HB6.out)
    clear HCL
    go_wp2_with fail
    go_ret2
    exact ⟨A6, rfl, HFF.out, HBF.out⟩
   case pos =>
    obtain ⟨ad, eA, x0, x1, x2⟩ := at_T50 (Kd.C_below HC4.out HBK.out) (k : Int) (by omega) (by omega)
    have hr0 : rd_T50 (xs.map toI) (k : Int) = toI xs[k] := by unfold rd_T50; rw [Int.toNat_natCast]; simp [List.getD, hlt]
    rw [hr0, Int.toNat_natCast] at x0 x1 x2
    have HTK : Hid (ptsOf s0 s1 (xs.take (k + 1)) = ptsOf s0 s1 (xs.take k) ++ [xs[k].fr, xs[k].to_].filter (inF s0 s1)) := Lib.hid (by rw [List.take_succ_eq_append_getElem hlt, ptsOf_snoc])
    have HLK : Hid ((ptsOf s0 s1 (xs.take k)).length ≤ 64) := Lib.hid (by have := ptsOf_le s0 s1 (xs.take k); rw [List.length_take] at this; omega)
    generalize xs[k] = u at x0 x1 x2 HTK
    obtain ⟨u0, u1, u2⟩ := u
    simp only [toI] at x0 x1 x2
    simp only at HTK
    clear hr0
    have HEA := Lib.hid eA
    subst eA
    have hd : decide ((k : Int) < (xs.length : Int)) = true := decide_eq_true (by omega)
    have hwk : IntKind.i64.wrap ((k : Int) + 1) = ((k + 1 : Nat) : Int) := by rw [IntWalk.i64_in _ (by omega)]; omega
    have g0 : (0 : Int) ≤ (k : Int) := by omega
    have g1 : (k : Int) < (xs.length : Int) := by omega
    have HKL := Lib.hid hlt
    have HSK := Lib.hid (blk_below HS.out HBK.out)
    clear hlt hk
    have hwsz : w.heap.size + 1 < w4.heap.size := blk_lt HS.out
    have HLB : Hid (((wr.alloc (.cells #[.int .i64 u0, .int .i64 u1, .int .i64 u2] 50)).alloc (.cells #[.int .i64 u0, .int .i64 u1] 3)).heap[wr.heap.size + 1]? = some (.cells #[.int .i64 u0, .int .i64 u1] 3 (0, 0))) := Lib.hid (by have := blk_new (wr.alloc (.cells #[.int .i64 u0, .int .i64 u1, .int .i64 u2] 50)) (.cells #[.int .i64 u0, .int .i64 u1] 3 (0, 0)); simpa using this)
    have HBI : Hid (Below w4.heap.size w4 ((wr.alloc (.cells #[.int .i64 u0, .int .i64 u1, .int .i64 u2] 50)).alloc (.cells #[.int .i64 u0, .int .i64 u1] 3))) := Lib.hid (below_alloc (below_alloc HBK.out _) _)
    have HRI : Hid (Kd.R (Kd.int .i64) 3 ((wr.alloc (.cells #[.int .i64 u0, .int .i64 u1, .int .i64 u2] 50)).alloc (.cells #[.int .i64 u0, .int .i64 u1] 3)) w4.heap.size (fun k => k ≠ wr.heap.size + 1) (.slice A8 (ptsOf s0 s1 (xs.take k)).length c8) (ptsOf s0 s1 (xs.take k))) := Lib.hid (Kd.R_mono (Kd.R_below (Kd.R_bound HRK.out) (((Below.refl wr.heap.size wr).alloc (Nat.le_refl _) _).alloc (by simp) _)) (fun k hk => by have := hk.2.2.1; omega))
    go_wp2_with fail
    generalize (wr.alloc (.cells #[.int .i64 u0, .int .i64 u1, .int .i64 u2] 50)).alloc (.cells #[.int .i64 u0, .int .i64 u1] 3) = w5 at *
    generalize wr.heap.size + 1 = lb at *
    generalize ptsOf s0 s1 (xs.take k) = P0 at *
    clear x0 x1 x2 HSK HRK HBK
    go_loopg [8, 36] 2 (fun g v i wi => ∃ j : Nat, j ≤ 2 ∧ g = 2 - j ∧ i = .int .i64 (j : Int) ∧ Kd.R (Kd.int .i64) 3 wi w4.heap.size (fun k => k ≠ lb) v (P0 ++ ([u0, u1].take j).filter (inF s0 s1)) ∧ Below w4.heap.size w4 wi ∧ wi.heap[lb]? = some (.cells #[.int .i64 u0, .int .i64 u1] 3 (0, 0)))
    case atStart => exact ⟨0, Nat.zero_le _, rfl, rfl, by simpa using HRI.out, HBI.out, HLB.out⟩
    case round =>
     obtain ⟨j, hj, hgj, rfl, hrj, hbj, hlj⟩ := hrel
     have HRJ := Lib.hid hrj
     have HBJ := Lib.hid hbj
     have HLJ := Lib.hid hlj
     have HGJ := Lib.hid hgj
     clear hrj hbj hlj hgj HRI HBI HLB
     obtain ⟨A9, c9, e9⟩ := Kd.R_slice HRJ.out
     subst e9
     by_cases hj2 : j < 2
     case neg =>
      have hjj : j = 2 := by omega
      subst hjj
      go_wp2
      go_roundg (xs.length - (k + 1))
      case measure => rw [HGK.out]; have := HKL.out; omega
      case rel => exact ⟨k + 1, by have := HKL.out; omega, rfl, by go_num, by rw [HTK.out]; exact Kd.R_mono HRJ.out (fun _ _ => trivial), HBJ.out⟩
     case pos =>
      obtain ⟨pt, hpt, hpc⟩ : ∃ pt, [u0, u1].take (j + 1) = [u0, u1].take j ++ [pt] ∧ wr.cell? ⟨lb, j, none⟩ = some (.int .i64 pt) := by
       match j, hj2 with
       | 0, _ => exact ⟨u0, rfl, (blk_cell HLJ.out 0).trans rfl⟩
       | 1, _ => exact ⟨u1, rfl, (blk_cell HLJ.out 1).trans rfl⟩
      have HPT : Hid (P0 ++ ([u0, u1].take (j + 1)).filter (inF s0 s1) = (P0 ++ ([u0, u1].take j).filter (inF s0 s1)) ++ (if inF s0 s1 pt = true then [pt] else [])) := Lib.hid (by rw [hpt, List.filter_append, List.filter_cons]; split <;> simp)
      have HLJ2 : Hid ((P0 ++ ([u0, u1].take j).filter (inF s0 s1)).length ≤ 70) := Lib.hid (by
       have := HLK.out
       have h2 := List.length_filter_le (inF s0 s1) ([u0, u1].take j)
       have h3 : ([u0, u1].take j).length ≤ 2 := by rw [List.length_take]; exact Nat.min_le_right _ _
       simp only [List.length_append]; omega)
      have hdj : decide ((j : Int) < 2) = true := decide_eq_true (by omega)
      have hwj : IntKind.i64.wrap ((j : Int) + 1) = ((j + 1 : Nat) : Int) := by rw [IntWalk.i64_in _ (by omega)]; omega
      have hj0 : (0 : Int) ≤ (j : Int) := by omega
      have hj1 : (j : Int) < 2 := by omega
      have hsj := blk_below HS.out HBJ.out
      have q0 := blk_cell hsj 0
      have q1 := blk_cell hsj 1
      simp at q0 q1
      have HJ2 := Lib.hid hj2
      clear hpt hsj hj hj2
      generalize P0 ++ ([u0, u1].take j).filter (inF s0 s1) = P1 at *
      by_cases h1 : s0 < pt
      case neg =>
       have hd1 : decide (s0 < pt) = false := decide_eq_false h1
       have HPN : Hid (P0 ++ ([u0, u1].take (j + 1)).filter (inF s0 s1) = P1) := Lib.hid (by rw [HPT.out, if_neg (by unfold inF; rw [hd1]; simp), List.append_nil])
       clear h1
       go_wp2_with fail
       go_roundg (2 - (j + 1))
       case measure => rw [HGJ.out]; have := HJ2.out; omega
       case rel => exact ⟨j + 1, by have := HJ2.out; omega, rfl, by go_num, by rw [HPN.out]; exact HRJ.out, HBJ.out, HLJ.out⟩
      case pos =>
       have hd1 : decide (s0 < pt) = true := decide_eq_true h1
       by_cases h2 : pt < s1
       case neg =>
        have hd2 : decide (pt < s1) = false := decide_eq_false h2
        have HPN : Hid (P0 ++ ([u0, u1].take (j + 1)).filter (inF s0 s1) = P1) := Lib.hid (by rw [HPT.out, if_neg (by unfold inF; rw [hd2]; simp), List.append_nil])
        clear h1 h2
        go_wp2_with fail
        go_roundg (2 - (j + 1))
        case measure => rw [HGJ.out]; have := HJ2.out; omega
        case rel => exact ⟨j + 1, by have := HJ2.out; omega, rfl, by go_num, by rw [HPN.out]; exact HRJ.out, HBJ.out, HLJ.out⟩
       case pos =>
        have hd2 : decide (pt < s1) = true := decide_eq_true h2
        have HPN : Hid (P0 ++ ([u0, u1].take (j + 1)).filter (inF s0 s1) = P1 ++ [pt]) := Lib.hid (by rw [HPT.out, if_pos (by unfold inF; rw [hd1, hd2]; rfl)])
        have HLL : Hid ((P1.length + 1) * 8 ≤ 140737488355328) := Lib.hid (by have := HLJ2.out; omega)
        have HLT : Hid (lb < wr.heap.size) := Lib.hid (blk_lt HLJ.out)
        clear h1 h2
        go_wp2_with (first | ((with_reducible refine gate_builtin (b := .append) (xs := #[.tmp 50, .tmp 52]) rfl ?_); at_builtin; refine Kd.R_append (Kd.int .i64) (w0 := w4) w4.heap.size rfl (.tmp 50) (.tmp 52) 23 3 (.int .i64 0) 8 rfl Try.underlying23 info3 rfl (by decide) (by omega) (.slice A9 P1.length c9) P1 pt [.int .i64 pt] (fun k => k ≠ lb) (fun _ => False) rfl rfl ?aP (fun _ hk => hk.elim) ?aF ?aO ?aB ?aS ?aL ?_; (case aP => exact rfl); (case aF => exact (fun k hk => by have := HLT.out; omega)); (case aO => exact HRJ.out); (case aB => exact HBJ.out); (case aS => exact HBJ.out.size); (case aL => exact HLL.out); intro v6 w6 ho6 hb6 hg6 _; have HO6 := Lib.hid ho6; have HB6 := Lib.hid hb6; have HL6 := Lib.hid (blk_grown HLJ.out hg6 (fun e => HRJ.out.1 lb e.symm rfl)); clear ho6 hb6 hg6))
        go_roundg (2 - (j + 1))
        case measure => rw [HGJ.out]; have := HJ2.out; omega
        case rel => exact ⟨j + 1, by have := HJ2.out; omega, rfl, by go_num, by rw [HPN.out]; exact HO6.out, HB6.out, HL6.out⟩
end Go.Proofs.Ytgkjpffbgnljeaa.Man
/- tree.Points in the printed form: its row may lie in a greater one. -/
set_option linter.unusedVariables false
namespace Go.Proofs.Ytgkjpffbgnljeaa.Man
open Go.RowKit Go.Proofs.Ytgkjpffbgnljeaa.QT Go.Proofs.Ytgkjpffbgnljeaa.TreeM Go.Proofs.YtgkjpffbgnljeaaW.PrintWords Go.Proofs.YtgkjpffbgnljeaaW.PrintLast Go.Proofs.YtgkjpffbgnljeaaW.PrintMore
noncomputable def tree_Points.f (l0_0 : List Nd) (a0_1 : Int) (l0_2 : List Int) (a1_0 a1_1 : Int) : Option (List Int × Int) := if l0_2.length < 17592186044416 then some (pointsF l0_0 a0_1 l0_2 a1_0 a1_1) else none
theorem tree_Points.calls (A0_0 : Option Addr) (c0_0 : Nat) (l0_0 : List Nd) (a0_1 : Int) (A0_2 : Option Addr) (c0_2 : Nat) (l0_2 : List Int) (a1_0 a1_1 : Int) (r1 : List Int) (r2 : Int) (w : World) (hr0_0 : Kd.C k64 w A0_0 l0_0.length l0_0) (hc0_0 : l0_0.length ≤ c0_0) (hr0_2 : Kd.C (Kd.int .i64) w A0_2 l0_2.length l0_2) (hc0_2 : l0_2.length ≤ c0_2) (h : tree_Points.f l0_0 a0_1 l0_2 a1_0 a1_1 = some (r1, r2)) :
  Calls Try.prog 15 #[.agg #[.slice A0_0 l0_0.length c0_0, .int .i64 a0_1, .slice A0_2 l0_2.length c0_2], .agg #[.int .i64 a1_0, .int .i64 a1_1]] w fun e w' => ∃ v0_ : Value, e = .returned (.tuple #[v0_, .int .i64 r2]) ∧ Kd.V (Kd.int .i64) 3 w' w.heap.size (fun k_ => (w.heap.size ≤ k_)) v0_ r1 ∧ Below w.heap.size w w' := by
 unfold tree_Points.f at h
 split at h
 ·simp only [Option.some.injEq] at h
  have h1 : (pointsF l0_0 a0_1 l0_2 a1_0 a1_1).1 = r1 := by rw [h]
  have h2 : (pointsF l0_0 a0_1 l0_2 a1_0 a1_1).2 = r2 := by rw [h]
  subst h1 h2
  refine (points_tree A0_0 c0_0 l0_0 a0_1 A0_2 c0_2 l0_2 a1_0 a1_1 w hr0_0 hr0_2 (by omega)).mono ?_
  rintro e w' ⟨A', rfl, hF, hb⟩
  exact ⟨_, rfl, ⟨A', _, rfl, Nat.le_refl _, hF⟩, hb⟩
 ·cases h
end Go.Proofs.Ytgkjpffbgnljeaa.Man
/- A layout for each tree; what insF and delF answer is again a tree that may be. -/
set_option linter.unusedVariables false
set_option linter.unusedSimpArgs false
namespace Go.Proofs.Ytgkjpffbgnljeaa.Man
open Go.RowKit Go.Proofs.Ytgkjpffbgnljeaa.QT Go.Proofs.Ytgkjpffbgnljeaa.TreeM Go.Proofs.YtgkjpffbgnljeaaW.PrintWords Go.Proofs.YtgkjpffbgnljeaaW.PrintLast Go.Proofs.YtgkjpffbgnljeaaW.PrintMore
def layF : T → Cells
 | .nil => fun _ => 0
 | .node p x l r => fun j => if j / 7 = p then (match j % 7 with | 0 => x.fr | 1 => x.to_ | 2 => x.id | 3 => plc l | 4 => plc r | 5 => (hgt (.node p x l r) : Int) | _ => most (.node p x l r)) else if j / 7 ∈ places l then layF l j else layF r j
theorem layF_blank : ∀ (t : T) (s : Nat), s ∉ places t → ∀ k, k < 7 → layF t (s * 7 + k) = 0
 | .nil, _, _, _, _ => rfl
 | .node p x l r, s, hs, k, hk => by
  simp only [places, List.mem_append, List.mem_cons, not_or] at hs
  have e : (s * 7 + k) / 7 = s := by omega
  simp only [layF, e, if_neg hs.2.1, if_neg hs.1]
  exact layF_blank r s hs.2.2 k hk
theorem layF_hang : ∀ t : T, (places t).Nodup → Hang (layF t) t (plc t)
 | .nil, _ => rfl
 | .node p x l r, h => by
  have ap := Apart.of h
  have hc : ∀ k, k < 7 → layF (.node p x l r) (p * 7 + k) = (match k with | 0 => x.fr | 1 => x.to_ | 2 => x.id | 3 => plc l | 4 => plc r | 5 => (hgt (.node p x l r) : Int) | _ => most (.node p x l r)) := by
   intro k hk
   have e : (p * 7 + k) / 7 = p := by omega
   have e2 : (p * 7 + k) % 7 = k := by omega
   simp only [layF, e, e2, if_pos]
  have hl : Off (fun s => s ∉ places l) (layF l) (layF (.node p x l r)) := by
   intro s hs k hk
   have hs' : s ∈ places l := Classical.not_not.1 hs
   have e : (s * 7 + k) / 7 = s := by omega
   have hne : s ≠ p := fun e => ap.nl (e ▸ hs')
   simp only [layF, e, if_neg hne, if_pos hs']
  have hr : Off (fun s => s ∉ places r) (layF r) (layF (.node p x l r)) := by
   intro s hs k hk
   have hs' : s ∈ places r := Classical.not_not.1 hs
   have e : (s * 7 + k) / 7 = s := by omega
   have hne : s ≠ p := fun e => ap.nr (e ▸ hs')
   have hnl : s ∉ places l := fun g => ap.lr s g hs'
   simp only [layF, e, if_neg hne, if_neg hnl]
  refine ⟨rfl, ⟨hc 0 (by omega), hc 1 (by omega), hc 2 (by omega)⟩, ?_, ?_, hc 5 (by omega), hc 6 (by omega)⟩
  ·rw [hc 3 (by omega)]; exact Hang.off hl (layF_hang l ap.dl) (fun s hs => fun g => g hs)
  ·rw [hc 4 (by omega)]; exact Hang.off hr (layF_hang r ap.dr) (fun s hs => fun g => g hs)
theorem IsT.ext {a b : Cells} {nn : Nat} {root : Int} {fr : List Int} {t : T} (h : IsT a nn root fr t) (g : ∀ j, j < nn * 7 → a j = b j) : IsT b nn root fr t := by
 obtain ⟨fn, hf⟩ := h.frees
 refine IsT.mk' h.size ⟨Hang.within g h.good.hang h.good.within, h.good.within, h.good.nodup, h.good.off, h.good.bal, h.good.may⟩ ⟨fn, hf.eq, hf.nodup, hf.lt, hf.off, fun p hp k hk => ?_, hf.all⟩ h.row
 have := hf.lt p hp
 rw [← g _ (by omega)]; exact hf.blank p hp k hk
theorem cellN_far (ns : List Nd) (s k : Nat) (hs : ns.length ≤ s) (hk : k < 7) : cellN ns (s * 7 + k) = 0 := by
 rw [cellN_at _ _ hk, List.getD, List.getElem?_eq_none hs]
 rcases k with _ | _ | _ | _ | _ | _ | _ | k
 all_goals first | rfl | omega
theorem nodesOf_lay (nn : Nat) (t : T) (h : (places t).Nodup) : nodesOf nn t = listN nn (layF t) := nodesOf_is (layF_hang t h) (fun s _ hm k hk => layF_blank t s hm k hk)
theorem IsT.lay {nn : Nat} {root : Int} {fr : List Int} {t : T} (h : IsT (layF t) nn root fr t) : IsT (cellN (nodesOf nn t)) (nodesOf nn t).length root fr t := by
 rw [nodesOf_lay nn t h.good.nodup, listN_length]
 exact h.ext (fun j hj => (cellN_listN _ hj).symm)
theorem ins_step {ns : List Nd} {root : Int} {fr : List Int} {t : T} {x : Itm} (h : IsT (cellN ns) ns.length root fr t) (hx : itmayF x = true) (hm : x ∉ items t) (hl : ¬ 32 ≤ (items t).length) :
  ∃ ns' root' fr', insF ns root fr x = ((ns', root', fr'), 0) ∧ IsT (cellN ns') ns'.length root' fr' (put t x (placeOf ns.length fr)) := by
 obtain ⟨fn, hf⟩ := h.frees
 have hpo := place_off hf h.good.within
 refine ⟨_, _, _, insF_ok h hx hm hl, IsT.lay (IsT.put h hx hm (by omega) (layF_hang _ (nodup_put h.good.nodup hpo)) ?_)⟩
 intro s hs k hk
 simp only [not_or] at hs
 rw [layF_blank _ s (fun g => (mem_put.1 g).elim hs.2 hs.1) k hk]
 by_cases hb : s < ns.length
 ·exact (hf.blanks s hb hs.1 k hk).symm
 ·exact (cellN_far ns s k (by omega) hk).symm
theorem ins_items {t : T} {x : Itm} {p : Nat} (h : Row (items t)) : items (put t x p) = withF (items t) x := items_put x p t h
theorem del_step {ns : List Nd} {root : Int} {fr : List Int} {t : T} {x : Itm} (h : IsT (cellN ns) ns.length root fr t) (hm : x ∈ items t) :
  ∃ ns' root' fr', delF ns root fr x = ((ns', root', fr'), 0) ∧ IsT (cellN ns') ns'.length root' fr' (TreeM.drop t x) := by
 obtain ⟨fn, hf⟩ := h.frees
 obtain ⟨d1, d2⟩ := nodup_drop h.good.nodup h.row hm
 have hmem := fun s => mem_drop (s := s) h.row hm
 refine ⟨_, _, _, delF_ok h hm, IsT.lay (IsT.drop h hm (layF_hang _ d2) ?_ (fun k hk => layF_blank _ _ d1 k hk))⟩
 intro s hs k hk
 rw [layF_blank _ s (fun g => hs ((hmem s).2 (.inr g))) k hk]
 by_cases hb : s < ns.length
 ·exact (hf.blanks s hb hs k hk).symm
 ·exact (cellN_far ns s k (by omega) hk).symm
theorem isT_new : IsT (cellN []) ([] : List Nd).length (-1) [] .nil := IsT.mk' (Nat.zero_le _) (good_nil _ _ _) ⟨[], rfl, by simp, by simp, by simp, by simp, fun p hp => by simp at hp⟩ List.Pairwise.nil
end Go.Proofs.Ytgkjpffbgnljeaa.Man
-- written by this session's program mprint.py: functions of the Go program, and their contracts
namespace Go.Proofs.Ytgkjpffbgnljeaa.QA
open Go.RowKit Go.Proofs.Ytgkjpffbgnljeaa.Au Go.Proofs.Ytgkjpffbgnljeaa.QT  Go.Proofs.YtgkjpffbgnljeaaW.PrintWords Go.Proofs.YtgkjpffbgnljeaaW.PrintLast Go.Proofs.YtgkjpffbgnljeaaW.PrintMore
attribute [local go_sem] max2_int min2_int max_two min_two max_three min_three max_four min_four
set_option linter.unusedVariables false
set_option linter.unusedSimpArgs false
attribute [local go_sem high] eqA50 eqA64
def tollbarref19_SameInts.l0 : Nat → List Int → List Int → Int → Option (Bool)
 | 0, _, _, _ => none
 | k + 1, x0, x1, x5 => if x5 < (x0.length : Int) then (if 0 ≤ x5 then (if x5 < (x1.length : Int) then (if (rd x0 x5) = (rd x1 x5) then (tollbarref19_SameInts.l0 k x0 x1 (wrap64 (x5 + 1))) else (some false)) else (none)) else (none)) else (some true)
def tollbarref19_SameInts.f (k : Nat) (l0 : List Int) (l1 : List Int) : Option (Bool) := if (l0.length : Int) = (l1.length : Int) then (tollbarref19_SameInts.l0 k l0 l1 0) else (some false)
set_option maxHeartbeats 8000000 in
set_option maxRecDepth 100000 in
theorem tollbarref19_SameInts.calls (k : Nat) (A0 : Option Addr) (c0 : Nat) (l0 : List Int) (A1 : Option Addr) (c1 : Nat) (l1 : List Int) (r : Bool) (w : World) (hr0 : Kd.C (Kd.int .i64) w A0 l0.length l0) (hc0 : l0.length ≤ c0) (hr1 : Kd.C (Kd.int .i64) w A1 l1.length l1) (hc1 : l1.length ≤ c1) (h : tollbarref19_SameInts.f k l0 l1 = some r) :
  Calls Try.prog 57 #[.slice A0 l0.length c0, .slice A1 l1.length c1] w fun e w' => e = .returned (.bool r) ∧ Drawn0 w w' := by
 have HR0 := zK hr0
 have HC0 := zK hc0
 clear hr0 hc0
 have HR1 := zK hr1
 have HC1 := zK hc1
 clear hr1 hc1
 have H : (if (l0.length : Int) = (l1.length : Int) then (tollbarref19_SameInts.l0 k l0 l1 0) else (some false)) = some r := h
 clear h
 by_cases c3 : (l0.length : Int) = (l1.length : Int)
 ·rw [if_pos c3] at H
  have c3b0 : ((l0.length : Int) == (l1.length : Int)) = true := yI.mpr c3
  have c3b1 : ((l0.length : Int) != (l1.length : Int)) = false := yJ.mpr c3
  have c3b2 : (l0.length == l1.length) = true := by first | simpa using c3 | (simp at c3 ⊢; omega)
  clear c3
  have H' := zK H
  clear H
  go_enter Try.func57, Try.ntmps57
  go_wp2
  repeat (go_quiet (fail); try go_wp2)
  go_loopg [5] k (fun kq v5 w' => ∃ (x5_1 : Int), v5 = .int .i64 x5_1 ∧ Aside0 (tollbarref19_SameInts.l0 kq l0 l1 x5_1 = some r) ∧ Aside0 (kq ≤ k) ∧ Drawn0 w w')
  case atStart => exact ⟨(0), zz, H', ⟨Nat.le_refl _⟩, by repeat (first | exact Drawn0.refl _ | apply Drawn0.step)⟩
  case round =>
   clear H'
   try clear c1
   try clear p2
   try clear c3
   try clear c3b0
   try clear c3b1
   try clear c3b2
   obtain ⟨x5_1, rfl, HA, HK1, ⟨m1, rfl⟩⟩ := hrel
   cases gk with
   | zero => exact absurd HA.out (by simp [tollbarref19_SameInts.l0])
   | succ k1 =>
    have H := HA.out
    clear HA
    simp only [tollbarref19_SameInts.l0] at H
    by_cases c4 : x5_1 < (l0.length : Int)
    ·rw [if_pos c4] at H
     have c4b0 : decide (x5_1 < (l0.length : Int)) = true := decide_eq_true c4
     clear c4
     by_cases c5 : 0 ≤ x5_1
     ·rw [if_pos c5] at H
      have c5b0 : decide (0 ≤ x5_1) = true := decide_eq_true c5
      clear c5
      by_cases c6 : x5_1 < (l1.length : Int)
      ·rw [if_pos c6] at H
       have c6b0 : decide (x5_1 < (l1.length : Int)) = true := decide_eq_true c6
       clear c6
       by_cases c7 : (rd l0 x5_1) = (rd l1 x5_1)
       ·rw [if_pos c7] at H
        have c7b0 : ((rd l0 x5_1) == (rd l1 x5_1)) = true := yI.mpr c7
        have c7b1 : ((rd l0 x5_1) != (rd l1 x5_1)) = false := yJ.mpr c7
        clear c7
        have H' := zK H
        clear H
        have p205 : 0 ≤ (x5_1 : Int) := of_decide_eq_true (by first | (with_reducible assumption) | assumption)
        have q205 : x5_1 < (l0.length : Int) := of_decide_eq_true (by first | (with_reducible assumption) | assumption)
        obtain ⟨ad205, e205, hx205_0⟩ := Kd.at_int HR0.out x5_1 p205 q205
        cases e205
        replace p205 := eq_true p205
        replace q205 := eq_true q205
        have p206 : 0 ≤ (x5_1 : Int) := of_decide_eq_true (by first | (with_reducible assumption) | assumption)
        have q206 : x5_1 < (l1.length : Int) := of_decide_eq_true (by first | (with_reducible assumption) | assumption)
        obtain ⟨ad206, e206, hx206_0⟩ := Kd.at_int HR1.out x5_1 p206 q206
        cases e206
        replace p206 := eq_true p206
        replace q206 := eq_true q206
        go_wp2
        repeat (go_quiet (fail); try go_wp2)
        go_roundg k1
        case measure => have := HK1.out; omega
        case rel => exact ⟨(wrap64 (x5_1 + 1)), zz, H', ⟨by have := HK1.out; omega⟩, by repeat (first | exact Drawn0.refl _ | apply Drawn0.step)⟩
       ·rw [if_neg c7] at H
        have c7b0 : ((rd l0 x5_1) == (rd l1 x5_1)) = false := yK.mpr c7
        have c7b1 : ((rd l0 x5_1) != (rd l1 x5_1)) = true := yL.mpr c7
        obtain rfl := Option.some.inj H
        have p205 : 0 ≤ (x5_1 : Int) := of_decide_eq_true (by first | (with_reducible assumption) | assumption)
        have q205 : x5_1 < (l0.length : Int) := of_decide_eq_true (by first | (with_reducible assumption) | assumption)
        obtain ⟨ad205, e205, hx205_0⟩ := Kd.at_int HR0.out x5_1 p205 q205
        cases e205
        replace p205 := eq_true p205
        replace q205 := eq_true q205
        have p206 : 0 ≤ (x5_1 : Int) := of_decide_eq_true (by first | (with_reducible assumption) | assumption)
        have q206 : x5_1 < (l1.length : Int) := of_decide_eq_true (by first | (with_reducible assumption) | assumption)
        obtain ⟨ad206, e206, hx206_0⟩ := Kd.at_int HR1.out x5_1 p206 q206
        cases e206
        replace p206 := eq_true p206
        replace q206 := eq_true q206
        go_wp2
        repeat (go_quiet (fail); try go_wp2)
        go_ret
        exact ⟨by first | rfl | (simp; done) | (simp [*]; done), by repeat (first | exact Drawn0.refl _ | apply Drawn0.step)⟩
      ·rw [if_neg c6] at H
       exact absurd H (by simp)
     ·rw [if_neg c5] at H
      exact absurd H (by simp)
    ·rw [if_neg c4] at H
     have c4b0 : decide (x5_1 < (l0.length : Int)) = false := decide_eq_false c4
     clear c4
     obtain rfl := Option.some.inj H
     go_wp2
     repeat (go_quiet (fail); try go_wp2)
     go_ret
     exact ⟨by first | rfl | (simp; done) | (simp [*]; done), by repeat (first | exact Drawn0.refl _ | apply Drawn0.step)⟩
 ·rw [if_neg c3] at H
  have c3b0 : ((l0.length : Int) == (l1.length : Int)) = false := yK.mpr c3
  have c3b1 : ((l0.length : Int) != (l1.length : Int)) = true := yL.mpr c3
  have c3b2 : (l0.length == l1.length) = false := by first | simpa using c3 | (simp at c3 ⊢; omega)
  obtain rfl := Option.some.inj H
  go_enter Try.func57, Try.ntmps57
  go_wp2
  repeat (go_quiet (fail); try go_wp2)
  go_ret
  exact ⟨by first | rfl | (simp; done) | (simp [*]; done), by repeat (first | exact Drawn0.refl _ | apply Drawn0.step)⟩
def tollbarlaw0_SameInts.f (k : Nat) (l0 : List Int) (l1 : List Int) : Option (Bool) := (tollbarref19_SameInts.f k l0 l1).bind fun t207 => (some t207)
set_option maxHeartbeats 8000000 in
set_option maxRecDepth 100000 in
theorem tollbarlaw0_SameInts.calls (k : Nat) (A0 : Option Addr) (c0 : Nat) (l0 : List Int) (A1 : Option Addr) (c1 : Nat) (l1 : List Int) (r : Bool) (w : World) (hr0 : Kd.C (Kd.int .i64) w A0 l0.length l0) (hc0 : l0.length ≤ c0) (hr1 : Kd.C (Kd.int .i64) w A1 l1.length l1) (hc1 : l1.length ≤ c1) (h : tollbarlaw0_SameInts.f k l0 l1 = some r) :
  Calls Try.prog 24 #[.slice A0 l0.length c0, .slice A1 l1.length c1] w fun e w' => e = .returned (.bool r) ∧ Drawn0 w w' := by
 have HR0 := zK hr0
 have HC0 := zK hc0
 clear hr0 hc0
 have HR1 := zK hr1
 have HC1 := zK hc1
 clear hr1 hc1
 have H : ((tollbarref19_SameInts.f k l0 l1).bind fun t207 => (some t207)) = some r := h
 clear h
 replace H := yH.mp H
 obtain ⟨t207, A30, H⟩ := H
 replace H : (some t207) = some r := H
 have A3 := zK A30
 clear A30
 obtain rfl := Option.some.inj H
 go_enter Try.func24, Try.ntmps24
 go_wp2_with (first | ((with_reducible refine gate_callee (f := 57) rfl ?_); refine goesL_ (some 7) rfl rfl Try.func57 (by kernel_rfl) rfl #[.slice A0 l0.length c0, .slice A1 l1.length c1] rfl zt ?_; (with_reducible refine (tollbarref19_SameInts.calls k _ _ l0 _ _ l1 t207 _ ?side1 ?side2 ?side3 ?side4 A3.out).mono ?_); (case side1 => repeat (first | exact HR0.out | (with_reducible refine zS ?_ _) | (with_reducible refine zT ?_ _) | (with_reducible refine zU ?_))); (case side2 => exact HC0.out); (case side3 => repeat (first | exact HR1.out | (with_reducible refine zS ?_ _) | (with_reducible refine zT ?_ _) | (with_reducible refine zU ?_))); (case side4 => exact HC1.out); rintro e w' ⟨rfl, ⟨nd, rfl⟩⟩; refine ⟨_, rfl, ?_⟩))
 go_ret
 exact ⟨by first | rfl | (simp; done) | (simp [*]; done), by repeat (first | exact Drawn0.refl _ | apply Drawn0.step)⟩
mutual
def tollbarlaw0_SameTree.j0 : Nat → Bool → List (S64) → Int → List Int → List (S64) → Int → List Int → Option (Bool)
 | 0, _, _, _, _, _, _, _ => none
 | k + 1, x27, xqa, xqb, xqc, xqd, xqe, xqf => if x27 = true then (some false) else (tollbarlaw0_SameTree.l0 k 0 xqa xqb xqc xqd xqe xqf)
def tollbarlaw0_SameTree.l0 : Nat → Int → List (S64) → Int → List Int → List (S64) → Int → List Int → Option (Bool)
 | 0, _, _, _, _, _, _, _ => none
 | k + 1, x5, xqa, xqb, xqc, xqd, xqe, xqf => if x5 < (xqa.length : Int) then (if 0 ≤ x5 then (if x5 < (xqd.length : Int) then (if (((!(((rd_T64 xqa x5).f0.f0.f0) == ((rd_T64 xqd x5).f0.f0.f0)) || (!(((rd_T64 xqa x5).f0.f0.f1) == ((rd_T64 xqd x5).f0.f0.f1)))) || (!(((rd_T64 xqa x5).f0.f1) == ((rd_T64 xqd x5).f0.f1)))) || (!(((rd_T64 xqa x5).f1) == ((rd_T64 xqd x5).f1)) || (!(((rd_T64 xqa x5).f2) == ((rd_T64 xqd x5).f2)) || (!(((rd_T64 xqa x5).f3) == ((rd_T64 xqd x5).f3)) || (!(((rd_T64 xqa x5).f4) == ((rd_T64 xqd x5).f4))))))) = true then (some false) else (tollbarlaw0_SameTree.l0 k (wrap64 (x5 + 1)) xqa xqb xqc xqd xqe xqf)) else (none)) else (none)) else (some true)
end
def tollbarlaw0_SameTree.f (k : Nat) (l0_0 : List (S64)) (a0_1 : Int) (l0_2 : List Int) (l1_0 : List (S64)) (a1_1 : Int) (l1_2 : List Int) : Option (Bool) := if (l0_0.length : Int) = (l1_0.length : Int) then (if a0_1 = a1_1 then ((tollbarlaw0_SameInts.f k l0_2 l1_2).bind fun t210 => (tollbarlaw0_SameTree.j0 k (!t210) l0_0 a0_1 l0_2 l1_0 a1_1 l1_2)) else (tollbarlaw0_SameTree.j0 k true l0_0 a0_1 l0_2 l1_0 a1_1 l1_2)) else (tollbarlaw0_SameTree.j0 k true l0_0 a0_1 l0_2 l1_0 a1_1 l1_2)
set_option maxHeartbeats 8000000 in
set_option maxRecDepth 100000 in
theorem tollbarlaw0_SameTree.calls (k : Nat) (A0_0 : Option Addr) (c0_0 : Nat) (l0_0 : List (S64)) (a0_1 : Int) (A0_2 : Option Addr) (c0_2 : Nat) (l0_2 : List Int) (A1_0 : Option Addr) (c1_0 : Nat) (l1_0 : List (S64)) (a1_1 : Int) (A1_2 : Option Addr) (c1_2 : Nat) (l1_2 : List Int) (r : Bool) (w : World) (hr0_0 : Kd.C k64 w A0_0 l0_0.length l0_0) (hc0_0 : l0_0.length ≤ c0_0) (hr0_2 : Kd.C (Kd.int .i64) w A0_2 l0_2.length l0_2) (hc0_2 : l0_2.length ≤ c0_2) (hr1_0 : Kd.C k64 w A1_0 l1_0.length l1_0) (hc1_0 : l1_0.length ≤ c1_0) (hr1_2 : Kd.C (Kd.int .i64) w A1_2 l1_2.length l1_2) (hc1_2 : l1_2.length ≤ c1_2) (h : tollbarlaw0_SameTree.f k l0_0 a0_1 l0_2 l1_0 a1_1 l1_2 = some r) :
  Calls Try.prog 17 #[.agg #[.slice A0_0 l0_0.length c0_0, .int .i64 a0_1, .slice A0_2 l0_2.length c0_2], .agg #[.slice A1_0 l1_0.length c1_0, .int .i64 a1_1, .slice A1_2 l1_2.length c1_2]] w fun e w' => e = .returned (.bool r) ∧ Below w.heap.size w w' := by
 have hu25 := Try.underlying25
 have hu64 := Try.underlying64
 have HR0_0 := zK hr0_0
 have HC0_0 := zK hc0_0
 clear hr0_0 hc0_0
 have HR0_2 := zK hr0_2
 have HC0_2 := zK hc0_2
 clear hr0_2 hc0_2
 have HR1_0 := zK hr1_0
 have HC1_0 := zK hc1_0
 clear hr1_0 hc1_0
 have HR1_2 := zK hr1_2
 have HC1_2 := zK hc1_2
 clear hr1_2 hc1_2
 have HB := zK (Below.refl w.heap.size w)
 have H : (if (l0_0.length : Int) = (l1_0.length : Int) then (if a0_1 = a1_1 then ((tollbarlaw0_SameInts.f k l0_2 l1_2).bind fun t210 => (tollbarlaw0_SameTree.j0 k (!t210) l0_0 a0_1 l0_2 l1_0 a1_1 l1_2)) else (tollbarlaw0_SameTree.j0 k true l0_0 a0_1 l0_2 l1_0 a1_1 l1_2)) else (tollbarlaw0_SameTree.j0 k true l0_0 a0_1 l0_2 l1_0 a1_1 l1_2)) = some r := h
 clear h
 have HC3 := zK H
 clear H
 go_enter Try.func17, Try.ntmps17
 go_upto_region 1 with (first | ((with_reducible refine gate_dst (N := 2) rfl ?_); refine box_event ?hg (N := 2) ?hd (cs := #[.slice A0_0 l0_0.length c0_0, .int .i64 a0_1, .slice A0_2 l0_2.length c0_2]) (t := 25) ?hr ?_; (case hd => rfl); (case hg => rfl); (case hr => first | (go_simp; done) | (go_simp; rfl)); intro gb208 hg w4 hbox hb; have n0_ := zK (yF (zl HB.out) hb); have n1_ := zK (hbox); have n2_ := zK ((by rw [hg]; exact (yG (zl HB.out)) : w.heap.size ≤ gb208)); have n3_ := zK ((by rw [hg]; exact (yG (zl HB.out)) : w.heap.size ≤ gb208)); clear HB; have HB := n0_; have BK208 := n1_; have GW208 := n2_; have GE208 := n3_; clear n0_ n1_ n2_ n3_; clear hb hbox hg) | ((with_reducible refine gate_dst (N := 3) rfl ?_); refine box_event ?hg (N := 3) ?hd (cs := #[.slice A1_0 l1_0.length c1_0, .int .i64 a1_1, .slice A1_2 l1_2.length c1_2]) (t := 25) ?hr ?_; (case hd => rfl); (case hg => rfl); (case hr => first | (go_simp; done) | (go_simp; rfl)); intro gb209 hg w5 hbox hb; have n0_ := zK (zP (g := gb208) (o := .cells #[.slice A0_0 l0_0.length c0_0, .int .i64 a0_1, .slice A0_2 l0_2.length c0_2] 25 (0, 0)) (zb BK208.out) hb); have n1_ := zK (yF (zl HB.out) hb); have n2_ := zK (hbox); have n3_ := zK ((by rw [hg]; exact (yG (zl HB.out)) : w.heap.size ≤ gb209)); have n4_ := zK ((by rw [hg]; exact (yG (zl HB.out)) : w.heap.size ≤ gb209)); have n5_ := zK ((by rw [hg]; exact zN (blk_lt (g := gb208) (o := .cells #[.slice A0_0 l0_0.length c0_0, .int .i64 a0_1, .slice A0_2 l0_2.length c0_2] 25 (0, 0)) (zb BK208.out)) : gb208 ≠ gb209)); have n6_ := zK ((by rw [hg]; exact Nat.ne_of_gt (blk_lt (g := gb208) (o := .cells #[.slice A0_0 l0_0.length c0_0, .int .i64 a0_1, .slice A0_2 l0_2.length c0_2] 25 (0, 0)) (zb BK208.out)) : gb209 ≠ gb208)); clear BK208; clear HB; have BK208 := n0_; have HB := n1_; have BK209 := n2_; have GW209 := n3_; have GE209 := n4_; have NB208_209 := n5_; have NB209_208 := n6_; clear n0_ n1_ n2_ n3_ n4_ n5_ n6_; clear hb hbox hg))
 repeat (go_quiet (first | ((with_reducible refine gate_dst (N := 2) rfl ?_); refine box_event ?hg (N := 2) ?hd (cs := #[.slice A0_0 l0_0.length c0_0, .int .i64 a0_1, .slice A0_2 l0_2.length c0_2]) (t := 25) ?hr ?_; (case hd => rfl); (case hg => rfl); (case hr => first | (go_simp; done) | (go_simp; rfl)); intro gb208 hg w4 hbox hb; have n0_ := zK (yF (zl HB.out) hb); have n1_ := zK (hbox); have n2_ := zK ((by rw [hg]; exact (yG (zl HB.out)) : w.heap.size ≤ gb208)); have n3_ := zK ((by rw [hg]; exact (yG (zl HB.out)) : w.heap.size ≤ gb208)); clear HB; have HB := n0_; have BK208 := n1_; have GW208 := n2_; have GE208 := n3_; clear n0_ n1_ n2_ n3_; clear hb hbox hg) | ((with_reducible refine gate_dst (N := 3) rfl ?_); refine box_event ?hg (N := 3) ?hd (cs := #[.slice A1_0 l1_0.length c1_0, .int .i64 a1_1, .slice A1_2 l1_2.length c1_2]) (t := 25) ?hr ?_; (case hd => rfl); (case hg => rfl); (case hr => first | (go_simp; done) | (go_simp; rfl)); intro gb209 hg w5 hbox hb; have n0_ := zK (zP (g := gb208) (o := .cells #[.slice A0_0 l0_0.length c0_0, .int .i64 a0_1, .slice A0_2 l0_2.length c0_2] 25 (0, 0)) (zb BK208.out) hb); have n1_ := zK (yF (zl HB.out) hb); have n2_ := zK (hbox); have n3_ := zK ((by rw [hg]; exact (yG (zl HB.out)) : w.heap.size ≤ gb209)); have n4_ := zK ((by rw [hg]; exact (yG (zl HB.out)) : w.heap.size ≤ gb209)); have n5_ := zK ((by rw [hg]; exact zN (blk_lt (g := gb208) (o := .cells #[.slice A0_0 l0_0.length c0_0, .int .i64 a0_1, .slice A0_2 l0_2.length c0_2] 25 (0, 0)) (zb BK208.out)) : gb208 ≠ gb209)); have n6_ := zK ((by rw [hg]; exact Nat.ne_of_gt (blk_lt (g := gb208) (o := .cells #[.slice A0_0 l0_0.length c0_0, .int .i64 a0_1, .slice A0_2 l0_2.length c0_2] 25 (0, 0)) (zb BK208.out)) : gb209 ≠ gb208)); clear BK208; clear HB; have BK208 := n0_; have HB := n1_; have BK209 := n2_; have GW209 := n3_; have GE209 := n4_; have NB208_209 := n5_; have NB209_208 := n6_; clear n0_ n1_ n2_ n3_ n4_ n5_ n6_; clear hb hbox hg)); go_upto_region 1 with (first | ((with_reducible refine gate_dst (N := 2) rfl ?_); refine box_event ?hg (N := 2) ?hd (cs := #[.slice A0_0 l0_0.length c0_0, .int .i64 a0_1, .slice A0_2 l0_2.length c0_2]) (t := 25) ?hr ?_; (case hd => rfl); (case hg => rfl); (case hr => first | (go_simp; done) | (go_simp; rfl)); intro gb208 hg w4 hbox hb; have n0_ := zK (yF (zl HB.out) hb); have n1_ := zK (hbox); have n2_ := zK ((by rw [hg]; exact (yG (zl HB.out)) : w.heap.size ≤ gb208)); have n3_ := zK ((by rw [hg]; exact (yG (zl HB.out)) : w.heap.size ≤ gb208)); clear HB; have HB := n0_; have BK208 := n1_; have GW208 := n2_; have GE208 := n3_; clear n0_ n1_ n2_ n3_; clear hb hbox hg) | ((with_reducible refine gate_dst (N := 3) rfl ?_); refine box_event ?hg (N := 3) ?hd (cs := #[.slice A1_0 l1_0.length c1_0, .int .i64 a1_1, .slice A1_2 l1_2.length c1_2]) (t := 25) ?hr ?_; (case hd => rfl); (case hg => rfl); (case hr => first | (go_simp; done) | (go_simp; rfl)); intro gb209 hg w5 hbox hb; have n0_ := zK (zP (g := gb208) (o := .cells #[.slice A0_0 l0_0.length c0_0, .int .i64 a0_1, .slice A0_2 l0_2.length c0_2] 25 (0, 0)) (zb BK208.out) hb); have n1_ := zK (yF (zl HB.out) hb); have n2_ := zK (hbox); have n3_ := zK ((by rw [hg]; exact (yG (zl HB.out)) : w.heap.size ≤ gb209)); have n4_ := zK ((by rw [hg]; exact (yG (zl HB.out)) : w.heap.size ≤ gb209)); have n5_ := zK ((by rw [hg]; exact zN (blk_lt (g := gb208) (o := .cells #[.slice A0_0 l0_0.length c0_0, .int .i64 a0_1, .slice A0_2 l0_2.length c0_2] 25 (0, 0)) (zb BK208.out)) : gb208 ≠ gb209)); have n6_ := zK ((by rw [hg]; exact Nat.ne_of_gt (blk_lt (g := gb208) (o := .cells #[.slice A0_0 l0_0.length c0_0, .int .i64 a0_1, .slice A0_2 l0_2.length c0_2] 25 (0, 0)) (zb BK208.out)) : gb209 ≠ gb208)); clear BK208; clear HB; have BK208 := n0_; have HB := n1_; have BK209 := n2_; have GW209 := n3_; have GE209 := n4_; have NB208_209 := n5_; have NB209_208 := n6_; clear n0_ n1_ n2_ n3_ n4_ n5_ n6_; clear hb hbox hg)))
 (try simp only [Act.put, zY, zZ, yA])
 go_cut [27] (fun v27 wc => ∃ (kq : Nat) (x27_2 : Bool), v27 = .bool x27_2 ∧ Aside0 (tollbarlaw0_SameTree.j0 kq x27_2 l0_0 a0_1 l0_2 l1_0 a1_1 l1_2 = some r) ∧ Aside0 (kq ≤ k) ∧ Aside0 (wc.heap[gb208]? = some (.cells #[(.slice A0_0 l0_0.length c0_0), .int .i64 a0_1, (.slice A0_2 l0_2.length c0_2)] 25 (0, 0))) ∧ Aside0 (wc.heap[gb209]? = some (.cells #[(.slice A1_0 l1_0.length c1_0), .int .i64 a1_1, (.slice A1_2 l1_2.length c1_2)] 25 (0, 0))) ∧ Aside0 (Below w.heap.size w wc))
 case first =>
  have H := HC3.out
  clear HC3
  by_cases c6 : (l0_0.length : Int) = (l1_0.length : Int)
  ·rw [if_pos c6] at H
   have c6b0 : ((l0_0.length : Int) == (l1_0.length : Int)) = true := yI.mpr c6
   have c6b1 : ((l0_0.length : Int) != (l1_0.length : Int)) = false := yJ.mpr c6
   have c6b2 : (l0_0.length == l1_0.length) = true := by first | simpa using c6 | (simp at c6 ⊢; omega)
   clear c6
   (first | rw [c6b0] | (simp only [i64_w, i32_w]; rw [c6b0]) | skip)
   by_cases c7 : a0_1 = a1_1
   ·rw [if_pos c7] at H
    have c7b0 : (a0_1 == a1_1) = true := yI.mpr c7
    have c7b1 : (a0_1 != a1_1) = false := yJ.mpr c7
    clear c7
    replace H := yH.mp H
    obtain ⟨t210, A80, H⟩ := H
    replace H : (tollbarlaw0_SameTree.j0 k (!t210) l0_0 a0_1 l0_2 l1_0 a1_1 l1_2) = some r := H
    have A8 := zK A80
    clear A80
    have H' := zK H
    clear H
    have hnb9 := NB208_209.out
    have hnc9 := NB209_208.out
    have hcz10_0 : w5.cell? ⟨gb208, 0, none⟩ = some (.slice A0_0 l0_0.length c0_0) := (zQ BK208.out 0).trans rfl
    have hcz10_1 : w5.cell? ⟨gb208, 1, none⟩ = some (.int .i64 a0_1) := (zQ BK208.out 1).trans rfl
    have hcz10_2 : w5.cell? ⟨gb208, 2, none⟩ = some (.slice A0_2 l0_2.length c0_2) := (zQ BK208.out 2).trans rfl
    have hfz10_0 := zR BK208.out 0
    have hfz10_1 := zR BK208.out 1
    have hfz10_2 := zR BK208.out 2
    have hcz11_0 : w5.cell? ⟨gb209, 0, none⟩ = some (.slice A1_0 l1_0.length c1_0) := (zQ BK209.out 0).trans rfl
    have hcz11_1 : w5.cell? ⟨gb209, 1, none⟩ = some (.int .i64 a1_1) := (zQ BK209.out 1).trans rfl
    have hcz11_2 : w5.cell? ⟨gb209, 2, none⟩ = some (.slice A1_2 l1_2.length c1_2) := (zQ BK209.out 2).trans rfl
    have hfz11_0 := zR BK209.out 0
    have hfz11_1 := zR BK209.out 1
    have hfz11_2 := zR BK209.out 2
    go_wp2_with (first | (go_at_call 24; (with_reducible refine (tollbarlaw0_SameInts.calls k _ _ l0_2 _ _ l1_2 t210 _ ?side1 ?side2 ?side3 ?side4 A8.out).mono ?_); (case side1 => repeat (first | exact (yD HR0_2.out HB.out) | (with_reducible refine zS ?_ _) | (with_reducible refine zT ?_ _) | (with_reducible refine zU ?_))); (case side2 => exact HC0_2.out); (case side3 => repeat (first | exact (yD HR1_2.out HB.out) | (with_reducible refine zS ?_ _) | (with_reducible refine zT ?_ _) | (with_reducible refine zU ?_))); (case side4 => exact HC1_2.out); rintro e w' ⟨rfl, ⟨nd, rfl⟩⟩; (try first | exact ⟨rfl, _, World.drewN_drewN _ _ _⟩ | exact ⟨rfl, _, Eq.trans (World.drewN_drewN _ _ _) (congrArg (World.drewN _) (Nat.add_assoc _ _ _))⟩)))
    repeat (go_quiet (first | (go_at_call 24; (with_reducible refine (tollbarlaw0_SameInts.calls k _ _ l0_2 _ _ l1_2 t210 _ ?side1 ?side2 ?side3 ?side4 A8.out).mono ?_); (case side1 => repeat (first | exact (yD HR0_2.out HB.out) | (with_reducible refine zS ?_ _) | (with_reducible refine zT ?_ _) | (with_reducible refine zU ?_))); (case side2 => exact HC0_2.out); (case side3 => repeat (first | exact (yD HR1_2.out HB.out) | (with_reducible refine zS ?_ _) | (with_reducible refine zT ?_ _) | (with_reducible refine zU ?_))); (case side4 => exact HC1_2.out); rintro e w' ⟨rfl, ⟨nd, rfl⟩⟩; (try first | exact ⟨rfl, _, World.drewN_drewN _ _ _⟩ | exact ⟨rfl, _, Eq.trans (World.drewN_drewN _ _ _) (congrArg (World.drewN _) (Nat.add_assoc _ _ _))⟩))); try go_wp2_with (first | (go_at_call 24; (with_reducible refine (tollbarlaw0_SameInts.calls k _ _ l0_2 _ _ l1_2 t210 _ ?side1 ?side2 ?side3 ?side4 A8.out).mono ?_); (case side1 => repeat (first | exact (yD HR0_2.out HB.out) | (with_reducible refine zS ?_ _) | (with_reducible refine zT ?_ _) | (with_reducible refine zU ?_))); (case side2 => exact HC0_2.out); (case side3 => repeat (first | exact (yD HR1_2.out HB.out) | (with_reducible refine zS ?_ _) | (with_reducible refine zT ?_ _) | (with_reducible refine zU ?_))); (case side4 => exact HC1_2.out); rintro e w' ⟨rfl, ⟨nd, rfl⟩⟩; (try first | exact ⟨rfl, _, World.drewN_drewN _ _ _⟩ | exact ⟨rfl, _, Eq.trans (World.drewN_drewN _ _ _) (congrArg (World.drewN _) (Nat.add_assoc _ _ _))⟩))))
    go_meet
    case rel => exact ⟨_, (!t210), zz, H', ⟨by first | omega | exact Nat.le_refl _⟩, ⟨by (with_reducible repeat (first | refine zD ?_ _ | refine zE ?_ | refine zF ?_ _)); exact BK208.out⟩, ⟨by (with_reducible repeat (first | refine zD ?_ _ | refine zE ?_ | refine zF ?_ _)); exact BK209.out⟩, ⟨by repeat (first | (with_reducible first | exact HB.out | apply zG | apply zH | apply zI | refine zL ?_ GE208.out | refine zL ?_ GE209.out) | exact HB.out)⟩⟩
   ·rw [if_neg c7] at H
    have c7b0 : (a0_1 == a1_1) = false := yK.mpr c7
    have c7b1 : (a0_1 != a1_1) = true := yL.mpr c7
    have H' := zK H
    clear H
    have hnb12 := NB208_209.out
    have hnc12 := NB209_208.out
    have hcz13_0 : w5.cell? ⟨gb208, 0, none⟩ = some (.slice A0_0 l0_0.length c0_0) := (zQ BK208.out 0).trans rfl
    have hcz13_1 : w5.cell? ⟨gb208, 1, none⟩ = some (.int .i64 a0_1) := (zQ BK208.out 1).trans rfl
    have hcz13_2 : w5.cell? ⟨gb208, 2, none⟩ = some (.slice A0_2 l0_2.length c0_2) := (zQ BK208.out 2).trans rfl
    have hfz13_0 := zR BK208.out 0
    have hfz13_1 := zR BK208.out 1
    have hfz13_2 := zR BK208.out 2
    have hcz14_0 : w5.cell? ⟨gb209, 0, none⟩ = some (.slice A1_0 l1_0.length c1_0) := (zQ BK209.out 0).trans rfl
    have hcz14_1 : w5.cell? ⟨gb209, 1, none⟩ = some (.int .i64 a1_1) := (zQ BK209.out 1).trans rfl
    have hcz14_2 : w5.cell? ⟨gb209, 2, none⟩ = some (.slice A1_2 l1_2.length c1_2) := (zQ BK209.out 2).trans rfl
    have hfz14_0 := zR BK209.out 0
    have hfz14_1 := zR BK209.out 1
    have hfz14_2 := zR BK209.out 2
    go_wp2
    repeat (go_quiet (fail); try go_wp2)
    go_meet
    case rel => exact ⟨_, (true), zz, H', ⟨by first | omega | exact Nat.le_refl _⟩, ⟨by (with_reducible repeat (first | refine zD ?_ _ | refine zE ?_ | refine zF ?_ _)); exact BK208.out⟩, ⟨by (with_reducible repeat (first | refine zD ?_ _ | refine zE ?_ | refine zF ?_ _)); exact BK209.out⟩, ⟨by repeat (first | (with_reducible first | exact HB.out | apply zG | apply zH | apply zI | refine zL ?_ GE208.out | refine zL ?_ GE209.out) | exact HB.out)⟩⟩
  ·rw [if_neg c6] at H
   have c6b0 : ((l0_0.length : Int) == (l1_0.length : Int)) = false := yK.mpr c6
   have c6b1 : ((l0_0.length : Int) != (l1_0.length : Int)) = true := yL.mpr c6
   have c6b2 : (l0_0.length == l1_0.length) = false := by first | simpa using c6 | (simp at c6 ⊢; omega)
   (first | rw [c6b0] | (simp only [i64_w, i32_w]; rw [c6b0]) | skip)
   have H' := zK H
   clear H
   have hnb15 := NB208_209.out
   have hnc15 := NB209_208.out
   have hcz16_0 : w5.cell? ⟨gb208, 0, none⟩ = some (.slice A0_0 l0_0.length c0_0) := (zQ BK208.out 0).trans rfl
   have hcz16_1 : w5.cell? ⟨gb208, 1, none⟩ = some (.int .i64 a0_1) := (zQ BK208.out 1).trans rfl
   have hcz16_2 : w5.cell? ⟨gb208, 2, none⟩ = some (.slice A0_2 l0_2.length c0_2) := (zQ BK208.out 2).trans rfl
   have hfz16_0 := zR BK208.out 0
   have hfz16_1 := zR BK208.out 1
   have hfz16_2 := zR BK208.out 2
   have hcz17_0 : w5.cell? ⟨gb209, 0, none⟩ = some (.slice A1_0 l1_0.length c1_0) := (zQ BK209.out 0).trans rfl
   have hcz17_1 : w5.cell? ⟨gb209, 1, none⟩ = some (.int .i64 a1_1) := (zQ BK209.out 1).trans rfl
   have hcz17_2 : w5.cell? ⟨gb209, 2, none⟩ = some (.slice A1_2 l1_2.length c1_2) := (zQ BK209.out 2).trans rfl
   have hfz17_0 := zR BK209.out 0
   have hfz17_1 := zR BK209.out 1
   have hfz17_2 := zR BK209.out 2
   go_wp2
   repeat (go_quiet (fail); try go_wp2)
   go_meet
   case rel => exact ⟨_, (true), zz, H', ⟨by first | omega | exact Nat.le_refl _⟩, ⟨by (with_reducible repeat (first | refine zD ?_ _ | refine zE ?_ | refine zF ?_ _)); exact BK208.out⟩, ⟨by (with_reducible repeat (first | refine zD ?_ _ | refine zE ?_ | refine zF ?_ _)); exact BK209.out⟩, ⟨by repeat (first | (with_reducible first | exact HB.out | apply zG | apply zH | apply zI | refine zL ?_ GE208.out | refine zL ?_ GE209.out) | exact HB.out)⟩⟩
 case rest =>
  clear HC3
  try clear c1
  try clear p2
  try clear c6
  try clear c6b0
  try clear c6b1
  try clear c6b2
  try clear c7
  try clear c7b0
  try clear c7b1
  try clear c9
  try clear c12
  try clear c15
  try clear c17
  try clear hcz10_0
  try clear hcz10_1
  try clear hcz10_2
  try clear hcz11_0
  try clear hcz11_1
  try clear hcz11_2
  try clear hcz13_0
  try clear hcz13_1
  try clear hcz13_2
  try clear hcz14_0
  try clear hcz14_1
  try clear hcz14_2
  try clear hcz16_0
  try clear hcz16_1
  try clear hcz16_2
  try clear hcz17_0
  try clear hcz17_1
  try clear hcz17_2
  try clear hfz10_0
  try clear hfz10_1
  try clear hfz10_2
  try clear hfz11_0
  try clear hfz11_1
  try clear hfz11_2
  try clear hfz13_0
  try clear hfz13_1
  try clear hfz13_2
  try clear hfz14_0
  try clear hfz14_1
  try clear hfz14_2
  try clear hfz16_0
  try clear hfz16_1
  try clear hfz16_2
  try clear hfz17_0
  try clear hfz17_1
  try clear hfz17_2
  obtain ⟨kq, x27_2, rfl, HA, HJ2, BK208, BK209, HB⟩ := hcut
  cases kq with
  | zero => exact absurd HA.out (by simp [tollbarlaw0_SameTree.j0])
  | succ kj2 =>
   have H := HA.out
   clear HA
   simp only [tollbarlaw0_SameTree.j0] at H
   by_cases c18 : x27_2 = true
   ·subst c18
    have H1 : (some false) = some r := by rw [if_pos rfl] at H; exact H
    clear H
    have H := H1
    clear H1
    obtain rfl := Option.some.inj H
    go_wp2
    repeat (go_quiet (fail); try go_wp2)
    go_ret
    exact ⟨ze, zl HB.out⟩
   ·replace c18 := Bool.eq_false_iff.mpr c18
    subst c18
    have H1 : (tollbarlaw0_SameTree.l0 kj2 0 l0_0 a0_1 l0_2 l1_0 a1_1 l1_2) = some r := by rw [if_neg (show ¬ (false = true) by decide)] at H; exact H
    clear H
    have H := H1
    clear H1
    have H' := zK H
    clear H
    go_wp2
    repeat (go_quiet (fail); try go_wp2)
    go_loopg [5] kj2 (fun kq v5 w' => ∃ (x5_2 : Int), v5 = .int .i64 x5_2 ∧ Aside0 (tollbarlaw0_SameTree.l0 kq x5_2 l0_0 a0_1 l0_2 l1_0 a1_1 l1_2 = some r) ∧ Aside0 (kq ≤ kj2) ∧ Aside0 (w'.heap[gb208]? = some (.cells #[(.slice A0_0 l0_0.length c0_0), .int .i64 a0_1, (.slice A0_2 l0_2.length c0_2)] 25 (0, 0))) ∧ Aside0 (w'.heap[gb209]? = some (.cells #[(.slice A1_0 l1_0.length c1_0), .int .i64 a1_1, (.slice A1_2 l1_2.length c1_2)] 25 (0, 0))) ∧ Aside0 (Below w.heap.size w w'))
    case atStart => exact ⟨(0), zz, H', ⟨Nat.le_refl _⟩, ⟨by (with_reducible repeat (first | refine zD ?_ _ | refine zE ?_ | refine zF ?_ _)); exact BK208.out⟩, ⟨by (with_reducible repeat (first | refine zD ?_ _ | refine zE ?_ | refine zF ?_ _)); exact BK209.out⟩, ⟨by repeat (first | (with_reducible first | exact HB.out | apply zG | apply zH | apply zI | refine zL ?_ GE208.out | refine zL ?_ GE209.out) | exact HB.out)⟩⟩
    case round =>
     clear H'
     try clear c1
     try clear p2
     try clear c6
     try clear c6b0
     try clear c6b1
     try clear c6b2
     try clear c7
     try clear c7b0
     try clear c7b1
     try clear c9
     try clear c12
     try clear c15
     try clear c17
     try clear c18
     try clear hcz10_0
     try clear hcz10_1
     try clear hcz10_2
     try clear hcz11_0
     try clear hcz11_1
     try clear hcz11_2
     try clear hcz13_0
     try clear hcz13_1
     try clear hcz13_2
     try clear hcz14_0
     try clear hcz14_1
     try clear hcz14_2
     try clear hcz16_0
     try clear hcz16_1
     try clear hcz16_2
     try clear hcz17_0
     try clear hcz17_1
     try clear hcz17_2
     try clear hfz10_0
     try clear hfz10_1
     try clear hfz10_2
     try clear hfz11_0
     try clear hfz11_1
     try clear hfz11_2
     try clear hfz13_0
     try clear hfz13_1
     try clear hfz13_2
     try clear hfz14_0
     try clear hfz14_1
     try clear hfz14_2
     try clear hfz16_0
     try clear hfz16_1
     try clear hfz16_2
     try clear hfz17_0
     try clear hfz17_1
     try clear hfz17_2
     try clear p2
     obtain ⟨x5_2, rfl, HA, HK2, BK208, BK209, HB⟩ := hrel
     cases gk with
     | zero => exact absurd HA.out (by simp [tollbarlaw0_SameTree.l0])
     | succ k2 =>
      have H := HA.out
      clear HA
      simp only [tollbarlaw0_SameTree.l0] at H
      by_cases c19 : x5_2 < (l0_0.length : Int)
      ·rw [if_pos c19] at H
       have c19b0 : decide (x5_2 < (l0_0.length : Int)) = true := decide_eq_true c19
       clear c19
       by_cases c20 : 0 ≤ x5_2
       ·rw [if_pos c20] at H
        have c20b0 : decide (0 ≤ x5_2) = true := decide_eq_true c20
        clear c20
        by_cases c21 : x5_2 < (l1_0.length : Int)
        ·rw [if_pos c21] at H
         have c21b0 : decide (x5_2 < (l1_0.length : Int)) = true := decide_eq_true c21
         clear c21
         by_cases c22 : (((!(((rd_T64 l0_0 x5_2).f0.f0.f0) == ((rd_T64 l1_0 x5_2).f0.f0.f0)) || (!(((rd_T64 l0_0 x5_2).f0.f0.f1) == ((rd_T64 l1_0 x5_2).f0.f0.f1)))) || (!(((rd_T64 l0_0 x5_2).f0.f1) == ((rd_T64 l1_0 x5_2).f0.f1)))) || (!(((rd_T64 l0_0 x5_2).f1) == ((rd_T64 l1_0 x5_2).f1)) || (!(((rd_T64 l0_0 x5_2).f2) == ((rd_T64 l1_0 x5_2).f2)) || (!(((rd_T64 l0_0 x5_2).f3) == ((rd_T64 l1_0 x5_2).f3)) || (!(((rd_T64 l0_0 x5_2).f4) == ((rd_T64 l1_0 x5_2).f4))))))) = true
         ·rw [if_pos c22] at H
          have c22b0 : (((!(((rd_T64 l0_0 x5_2).f0.f0.f0) == ((rd_T64 l1_0 x5_2).f0.f0.f0)) || (!(((rd_T64 l0_0 x5_2).f0.f0.f1) == ((rd_T64 l1_0 x5_2).f0.f0.f1)))) || (!(((rd_T64 l0_0 x5_2).f0.f1) == ((rd_T64 l1_0 x5_2).f0.f1)))) || (!(((rd_T64 l0_0 x5_2).f1) == ((rd_T64 l1_0 x5_2).f1)) || (!(((rd_T64 l0_0 x5_2).f2) == ((rd_T64 l1_0 x5_2).f2)) || (!(((rd_T64 l0_0 x5_2).f3) == ((rd_T64 l1_0 x5_2).f3)) || (!(((rd_T64 l0_0 x5_2).f4) == ((rd_T64 l1_0 x5_2).f4))))))) = true := c22
          clear c22
          obtain rfl := Option.some.inj H
          have hnb23 := NB208_209.out
          have hnc23 := NB209_208.out
          have hcz24_0 : wr.cell? ⟨gb208, 0, none⟩ = some (.slice A0_0 l0_0.length c0_0) := (zQ BK208.out 0).trans rfl
          have hcz24_1 : wr.cell? ⟨gb208, 1, none⟩ = some (.int .i64 a0_1) := (zQ BK208.out 1).trans rfl
          have hcz24_2 : wr.cell? ⟨gb208, 2, none⟩ = some (.slice A0_2 l0_2.length c0_2) := (zQ BK208.out 2).trans rfl
          have hfz24_0 := zR BK208.out 0
          have hfz24_1 := zR BK208.out 1
          have hfz24_2 := zR BK208.out 2
          have p211 : 0 ≤ (x5_2 : Int) := of_decide_eq_true (by first | (with_reducible assumption) | assumption)
          have q211 : x5_2 < (l0_0.length : Int) := of_decide_eq_true (by first | (with_reducible assumption) | assumption)
          obtain ⟨ad211, e211, hx211_0, hx211_1, hx211_2, hx211_3, hx211_4, hx211_5, hx211_6⟩ := at_T64 HR0_0.out x5_2 p211 q211
          cases e211
          replace hx211_0 := (HB.out.cell (zJ w _ hx211_0)).trans hx211_0
          replace hx211_1 := (HB.out.cell (zJ w _ hx211_1)).trans hx211_1
          replace hx211_2 := (HB.out.cell (zJ w _ hx211_2)).trans hx211_2
          replace hx211_3 := (HB.out.cell (zJ w _ hx211_3)).trans hx211_3
          replace hx211_4 := (HB.out.cell (zJ w _ hx211_4)).trans hx211_4
          replace hx211_5 := (HB.out.cell (zJ w _ hx211_5)).trans hx211_5
          replace hx211_6 := (HB.out.cell (zJ w _ hx211_6)).trans hx211_6
          replace p211 := eq_true p211
          replace q211 := eq_true q211
          have hcz25_0 : wr.cell? ⟨gb209, 0, none⟩ = some (.slice A1_0 l1_0.length c1_0) := (zQ BK209.out 0).trans rfl
          have hcz25_1 : wr.cell? ⟨gb209, 1, none⟩ = some (.int .i64 a1_1) := (zQ BK209.out 1).trans rfl
          have hcz25_2 : wr.cell? ⟨gb209, 2, none⟩ = some (.slice A1_2 l1_2.length c1_2) := (zQ BK209.out 2).trans rfl
          have hfz25_0 := zR BK209.out 0
          have hfz25_1 := zR BK209.out 1
          have hfz25_2 := zR BK209.out 2
          have p212 : 0 ≤ (x5_2 : Int) := of_decide_eq_true (by first | (with_reducible assumption) | assumption)
          have q212 : x5_2 < (l1_0.length : Int) := of_decide_eq_true (by first | (with_reducible assumption) | assumption)
          obtain ⟨ad212, e212, hx212_0, hx212_1, hx212_2, hx212_3, hx212_4, hx212_5, hx212_6⟩ := at_T64 HR1_0.out x5_2 p212 q212
          cases e212
          replace hx212_0 := (HB.out.cell (zJ w _ hx212_0)).trans hx212_0
          replace hx212_1 := (HB.out.cell (zJ w _ hx212_1)).trans hx212_1
          replace hx212_2 := (HB.out.cell (zJ w _ hx212_2)).trans hx212_2
          replace hx212_3 := (HB.out.cell (zJ w _ hx212_3)).trans hx212_3
          replace hx212_4 := (HB.out.cell (zJ w _ hx212_4)).trans hx212_4
          replace hx212_5 := (HB.out.cell (zJ w _ hx212_5)).trans hx212_5
          replace hx212_6 := (HB.out.cell (zJ w _ hx212_6)).trans hx212_6
          replace p212 := eq_true p212
          replace q212 := eq_true q212
          go_wp2
          repeat (go_quiet (fail); try go_wp2)
          go_ret
          exact ⟨ze, zl HB.out⟩
         ·rw [if_neg c22] at H
          have c22b0 : (((!(((rd_T64 l0_0 x5_2).f0.f0.f0) == ((rd_T64 l1_0 x5_2).f0.f0.f0)) || (!(((rd_T64 l0_0 x5_2).f0.f0.f1) == ((rd_T64 l1_0 x5_2).f0.f0.f1)))) || (!(((rd_T64 l0_0 x5_2).f0.f1) == ((rd_T64 l1_0 x5_2).f0.f1)))) || (!(((rd_T64 l0_0 x5_2).f1) == ((rd_T64 l1_0 x5_2).f1)) || (!(((rd_T64 l0_0 x5_2).f2) == ((rd_T64 l1_0 x5_2).f2)) || (!(((rd_T64 l0_0 x5_2).f3) == ((rd_T64 l1_0 x5_2).f3)) || (!(((rd_T64 l0_0 x5_2).f4) == ((rd_T64 l1_0 x5_2).f4))))))) = false := by simpa using c22
          clear c22
          have H' := zK H
          clear H
          have hnb26 := NB208_209.out
          have hnc26 := NB209_208.out
          have hcz27_0 : wr.cell? ⟨gb208, 0, none⟩ = some (.slice A0_0 l0_0.length c0_0) := (zQ BK208.out 0).trans rfl
          have hcz27_1 : wr.cell? ⟨gb208, 1, none⟩ = some (.int .i64 a0_1) := (zQ BK208.out 1).trans rfl
          have hcz27_2 : wr.cell? ⟨gb208, 2, none⟩ = some (.slice A0_2 l0_2.length c0_2) := (zQ BK208.out 2).trans rfl
          have hfz27_0 := zR BK208.out 0
          have hfz27_1 := zR BK208.out 1
          have hfz27_2 := zR BK208.out 2
          have p211 : 0 ≤ (x5_2 : Int) := of_decide_eq_true (by first | (with_reducible assumption) | assumption)
          have q211 : x5_2 < (l0_0.length : Int) := of_decide_eq_true (by first | (with_reducible assumption) | assumption)
          obtain ⟨ad211, e211, hx211_0, hx211_1, hx211_2, hx211_3, hx211_4, hx211_5, hx211_6⟩ := at_T64 HR0_0.out x5_2 p211 q211
          cases e211
          replace hx211_0 := (HB.out.cell (zJ w _ hx211_0)).trans hx211_0
          replace hx211_1 := (HB.out.cell (zJ w _ hx211_1)).trans hx211_1
          replace hx211_2 := (HB.out.cell (zJ w _ hx211_2)).trans hx211_2
          replace hx211_3 := (HB.out.cell (zJ w _ hx211_3)).trans hx211_3
          replace hx211_4 := (HB.out.cell (zJ w _ hx211_4)).trans hx211_4
          replace hx211_5 := (HB.out.cell (zJ w _ hx211_5)).trans hx211_5
          replace hx211_6 := (HB.out.cell (zJ w _ hx211_6)).trans hx211_6
          replace p211 := eq_true p211
          replace q211 := eq_true q211
          have hcz28_0 : wr.cell? ⟨gb209, 0, none⟩ = some (.slice A1_0 l1_0.length c1_0) := (zQ BK209.out 0).trans rfl
          have hcz28_1 : wr.cell? ⟨gb209, 1, none⟩ = some (.int .i64 a1_1) := (zQ BK209.out 1).trans rfl
          have hcz28_2 : wr.cell? ⟨gb209, 2, none⟩ = some (.slice A1_2 l1_2.length c1_2) := (zQ BK209.out 2).trans rfl
          have hfz28_0 := zR BK209.out 0
          have hfz28_1 := zR BK209.out 1
          have hfz28_2 := zR BK209.out 2
          have p212 : 0 ≤ (x5_2 : Int) := of_decide_eq_true (by first | (with_reducible assumption) | assumption)
          have q212 : x5_2 < (l1_0.length : Int) := of_decide_eq_true (by first | (with_reducible assumption) | assumption)
          obtain ⟨ad212, e212, hx212_0, hx212_1, hx212_2, hx212_3, hx212_4, hx212_5, hx212_6⟩ := at_T64 HR1_0.out x5_2 p212 q212
          cases e212
          replace hx212_0 := (HB.out.cell (zJ w _ hx212_0)).trans hx212_0
          replace hx212_1 := (HB.out.cell (zJ w _ hx212_1)).trans hx212_1
          replace hx212_2 := (HB.out.cell (zJ w _ hx212_2)).trans hx212_2
          replace hx212_3 := (HB.out.cell (zJ w _ hx212_3)).trans hx212_3
          replace hx212_4 := (HB.out.cell (zJ w _ hx212_4)).trans hx212_4
          replace hx212_5 := (HB.out.cell (zJ w _ hx212_5)).trans hx212_5
          replace hx212_6 := (HB.out.cell (zJ w _ hx212_6)).trans hx212_6
          replace p212 := eq_true p212
          replace q212 := eq_true q212
          go_wp2
          repeat (go_quiet (fail); try go_wp2)
          go_roundg k2
          case measure => have := HJ2.out; have := HK2.out; omega
          case rel => exact ⟨(wrap64 (x5_2 + 1)), zz, H', ⟨by have := HJ2.out; have := HK2.out; omega⟩, ⟨by (with_reducible repeat (first | refine zD ?_ _ | refine zE ?_ | refine zF ?_ _)); exact BK208.out⟩, ⟨by (with_reducible repeat (first | refine zD ?_ _ | refine zE ?_ | refine zF ?_ _)); exact BK209.out⟩, ⟨by repeat (first | (with_reducible first | exact HB.out | apply zG | apply zH | apply zI | refine zL ?_ GE208.out | refine zL ?_ GE209.out) | exact HB.out)⟩⟩
        ·rw [if_neg c21] at H
         exact absurd H (by simp)
       ·rw [if_neg c20] at H
        exact absurd H (by simp)
      ·rw [if_neg c19] at H
       have c19b0 : decide (x5_2 < (l0_0.length : Int)) = false := decide_eq_false c19
       clear c19
       obtain rfl := Option.some.inj H
       have hnb29 := NB208_209.out
       have hnc29 := NB209_208.out
       have hcz30_0 : wr.cell? ⟨gb208, 0, none⟩ = some (.slice A0_0 l0_0.length c0_0) := (zQ BK208.out 0).trans rfl
       have hcz30_1 : wr.cell? ⟨gb208, 1, none⟩ = some (.int .i64 a0_1) := (zQ BK208.out 1).trans rfl
       have hcz30_2 : wr.cell? ⟨gb208, 2, none⟩ = some (.slice A0_2 l0_2.length c0_2) := (zQ BK208.out 2).trans rfl
       have hfz30_0 := zR BK208.out 0
       have hfz30_1 := zR BK208.out 1
       have hfz30_2 := zR BK208.out 2
       go_wp2
       repeat (go_quiet (fail); try go_wp2)
       go_ret
       exact ⟨ze, zl HB.out⟩
def tollbarlaw0_Num.f (a0 : Int) : Option (Int) := some a0
set_option maxHeartbeats 8000000 in
set_option maxRecDepth 100000 in
theorem tollbarlaw0_Num.calls (a0 : Int) (r : Int) (w : World) (h : tollbarlaw0_Num.f a0 = some r) :
  Calls Try.prog 19 #[.int .i64 a0] w fun e w' => e = .returned (.int .i64 r) ∧ Drawn0 w w' := by
 have H : (some a0) = some r := h
 clear h
 obtain rfl := Option.some.inj H
 go_enter Try.func19, Try.ntmps19
 go_wp2
 go_ret
 exact ⟨by first | rfl | (simp; done) | (simp [*]; done), by repeat (first | exact Drawn0.refl _ | apply Drawn0.step)⟩
def tollbarlaw0_SameItems.l0 : Nat → List (S50) → List (S50) → Int → Option (Bool)
 | 0, _, _, _ => none
 | k + 1, x0, x1, x5 => if x5 < (x0.length : Int) then (if 0 ≤ x5 then (if x5 < (x1.length : Int) then (if ((!(((rd_T50 x0 x5).f0.f0) == ((rd_T50 x1 x5).f0.f0)) || (!(((rd_T50 x0 x5).f0.f1) == ((rd_T50 x1 x5).f0.f1)))) || (!(((rd_T50 x0 x5).f1) == ((rd_T50 x1 x5).f1)))) = true then (some false) else (tollbarlaw0_SameItems.l0 k x0 x1 (wrap64 (x5 + 1)))) else (none)) else (none)) else (some true)
def tollbarlaw0_SameItems.f (k : Nat) (l0 : List (S50)) (l1 : List (S50)) : Option (Bool) := if (l0.length : Int) = (l1.length : Int) then (tollbarlaw0_SameItems.l0 k l0 l1 0) else (some false)
set_option maxHeartbeats 8000000 in
set_option maxRecDepth 100000 in
theorem tollbarlaw0_SameItems.calls (k : Nat) (A0 : Option Addr) (c0 : Nat) (l0 : List (S50)) (A1 : Option Addr) (c1 : Nat) (l1 : List (S50)) (r : Bool) (w : World) (hr0 : Kd.C k50 w A0 l0.length l0) (hc0 : l0.length ≤ c0) (hr1 : Kd.C k50 w A1 l1.length l1) (hc1 : l1.length ≤ c1) (h : tollbarlaw0_SameItems.f k l0 l1 = some r) :
  Calls Try.prog 20 #[.slice A0 l0.length c0, .slice A1 l1.length c1] w fun e w' => e = .returned (.bool r) ∧ Drawn0 w w' := by
 have hu50 := Try.underlying50
 have HR0 := zK hr0
 have HC0 := zK hc0
 clear hr0 hc0
 have HR1 := zK hr1
 have HC1 := zK hc1
 clear hr1 hc1
 have H : (if (l0.length : Int) = (l1.length : Int) then (tollbarlaw0_SameItems.l0 k l0 l1 0) else (some false)) = some r := h
 clear h
 by_cases c3 : (l0.length : Int) = (l1.length : Int)
 ·rw [if_pos c3] at H
  have c3b0 : ((l0.length : Int) == (l1.length : Int)) = true := yI.mpr c3
  have c3b1 : ((l0.length : Int) != (l1.length : Int)) = false := yJ.mpr c3
  have c3b2 : (l0.length == l1.length) = true := by first | simpa using c3 | (simp at c3 ⊢; omega)
  clear c3
  have H' := zK H
  clear H
  go_enter Try.func20, Try.ntmps20
  go_wp2
  repeat (go_quiet (fail); try go_wp2)
  go_loopg [5] k (fun kq v5 w' => ∃ (x5_1 : Int), v5 = .int .i64 x5_1 ∧ Aside0 (tollbarlaw0_SameItems.l0 kq l0 l1 x5_1 = some r) ∧ Aside0 (kq ≤ k) ∧ Drawn0 w w')
  case atStart => exact ⟨(0), zz, H', ⟨Nat.le_refl _⟩, by repeat (first | exact Drawn0.refl _ | apply Drawn0.step)⟩
  case round =>
   clear H'
   try clear c1
   try clear c2
   try clear p2
   try clear c3
   try clear c3b0
   try clear c3b1
   try clear c3b2
   obtain ⟨x5_1, rfl, HA, HK1, ⟨m1, rfl⟩⟩ := hrel
   cases gk with
   | zero => exact absurd HA.out (by simp [tollbarlaw0_SameItems.l0])
   | succ k1 =>
    have H := HA.out
    clear HA
    simp only [tollbarlaw0_SameItems.l0] at H
    by_cases c4 : x5_1 < (l0.length : Int)
    ·rw [if_pos c4] at H
     have c4b0 : decide (x5_1 < (l0.length : Int)) = true := decide_eq_true c4
     clear c4
     by_cases c5 : 0 ≤ x5_1
     ·rw [if_pos c5] at H
      have c5b0 : decide (0 ≤ x5_1) = true := decide_eq_true c5
      clear c5
      by_cases c6 : x5_1 < (l1.length : Int)
      ·rw [if_pos c6] at H
       have c6b0 : decide (x5_1 < (l1.length : Int)) = true := decide_eq_true c6
       clear c6
       by_cases c7 : ((!(((rd_T50 l0 x5_1).f0.f0) == ((rd_T50 l1 x5_1).f0.f0)) || (!(((rd_T50 l0 x5_1).f0.f1) == ((rd_T50 l1 x5_1).f0.f1)))) || (!(((rd_T50 l0 x5_1).f1) == ((rd_T50 l1 x5_1).f1)))) = true
       ·rw [if_pos c7] at H
        have c7b0 : ((!(((rd_T50 l0 x5_1).f0.f0) == ((rd_T50 l1 x5_1).f0.f0)) || (!(((rd_T50 l0 x5_1).f0.f1) == ((rd_T50 l1 x5_1).f0.f1)))) || (!(((rd_T50 l0 x5_1).f1) == ((rd_T50 l1 x5_1).f1)))) = true := c7
        clear c7
        obtain rfl := Option.some.inj H
        have p213 : 0 ≤ (x5_1 : Int) := of_decide_eq_true (by first | (with_reducible assumption) | assumption)
        have q213 : x5_1 < (l0.length : Int) := of_decide_eq_true (by first | (with_reducible assumption) | assumption)
        obtain ⟨ad213, e213, hx213_0, hx213_1, hx213_2⟩ := at_T50 HR0.out x5_1 p213 q213
        cases e213
        replace p213 := eq_true p213
        replace q213 := eq_true q213
        have p214 : 0 ≤ (x5_1 : Int) := of_decide_eq_true (by first | (with_reducible assumption) | assumption)
        have q214 : x5_1 < (l1.length : Int) := of_decide_eq_true (by first | (with_reducible assumption) | assumption)
        obtain ⟨ad214, e214, hx214_0, hx214_1, hx214_2⟩ := at_T50 HR1.out x5_1 p214 q214
        cases e214
        replace p214 := eq_true p214
        replace q214 := eq_true q214
        go_wp2
        repeat (go_quiet (fail); try go_wp2)
        go_ret
        exact ⟨by first | rfl | (simp; done) | (simp [*]; done), by repeat (first | exact Drawn0.refl _ | apply Drawn0.step)⟩
       ·rw [if_neg c7] at H
        have c7b0 : ((!(((rd_T50 l0 x5_1).f0.f0) == ((rd_T50 l1 x5_1).f0.f0)) || (!(((rd_T50 l0 x5_1).f0.f1) == ((rd_T50 l1 x5_1).f0.f1)))) || (!(((rd_T50 l0 x5_1).f1) == ((rd_T50 l1 x5_1).f1)))) = false := by simpa using c7
        clear c7
        have H' := zK H
        clear H
        have p213 : 0 ≤ (x5_1 : Int) := of_decide_eq_true (by first | (with_reducible assumption) | assumption)
        have q213 : x5_1 < (l0.length : Int) := of_decide_eq_true (by first | (with_reducible assumption) | assumption)
        obtain ⟨ad213, e213, hx213_0, hx213_1, hx213_2⟩ := at_T50 HR0.out x5_1 p213 q213
        cases e213
        replace p213 := eq_true p213
        replace q213 := eq_true q213
        have p214 : 0 ≤ (x5_1 : Int) := of_decide_eq_true (by first | (with_reducible assumption) | assumption)
        have q214 : x5_1 < (l1.length : Int) := of_decide_eq_true (by first | (with_reducible assumption) | assumption)
        obtain ⟨ad214, e214, hx214_0, hx214_1, hx214_2⟩ := at_T50 HR1.out x5_1 p214 q214
        cases e214
        replace p214 := eq_true p214
        replace q214 := eq_true q214
        go_wp2
        repeat (go_quiet (fail); try go_wp2)
        go_roundg k1
        case measure => have := HK1.out; omega
        case rel => exact ⟨(wrap64 (x5_1 + 1)), zz, H', ⟨by have := HK1.out; omega⟩, by repeat (first | exact Drawn0.refl _ | apply Drawn0.step)⟩
      ·rw [if_neg c6] at H
       exact absurd H (by simp)
     ·rw [if_neg c5] at H
      exact absurd H (by simp)
    ·rw [if_neg c4] at H
     have c4b0 : decide (x5_1 < (l0.length : Int)) = false := decide_eq_false c4
     clear c4
     obtain rfl := Option.some.inj H
     go_wp2
     repeat (go_quiet (fail); try go_wp2)
     go_ret
     exact ⟨by first | rfl | (simp; done) | (simp [*]; done), by repeat (first | exact Drawn0.refl _ | apply Drawn0.step)⟩
 ·rw [if_neg c3] at H
  have c3b0 : ((l0.length : Int) == (l1.length : Int)) = false := yK.mpr c3
  have c3b1 : ((l0.length : Int) != (l1.length : Int)) = true := yL.mpr c3
  have c3b2 : (l0.length == l1.length) = false := by first | simpa using c3 | (simp at c3 ⊢; omega)
  obtain rfl := Option.some.inj H
  go_enter Try.func20, Try.ntmps20
  go_wp2
  repeat (go_quiet (fail); try go_wp2)
  go_ret
  exact ⟨by first | rfl | (simp; done) | (simp [*]; done), by repeat (first | exact Drawn0.refl _ | apply Drawn0.step)⟩
def tree_New.f  : Option ((List (S64)) × Int × List Int) := some (([] : List (S64)), (-1), ([] : List Int))
set_option maxHeartbeats 8000000 in
set_option maxRecDepth 100000 in
theorem tree_New.calls  (r1 : List (S64)) (r2 : Int) (r3 : List Int) (w : World) (h : tree_New.f  = some (r1, r2, r3)) :
  Calls Try.prog 33 #[] w fun e w' => ∃ v0_ v2_ : Value, e = .returned (.agg #[v0_, .int .i64 r2, v2_]) ∧ Kd.R k64 64 w' w.heap.size (fun _ => True) v0_ r1 ∧ Kd.R (Kd.int .i64) 3 w' w.heap.size (fun _ => True) v2_ r3 ∧ Below w.heap.size w w' := by
 have hu25 := Try.underlying25
 have HB := zK (Below.refl w.heap.size w)
 have H : (some (([] : List (S64)), (-1), ([] : List Int))) = some (r1, r2, r3) := h
 clear h
 simp only [Option.some.injEq, Prod.mk.injEq] at H
 obtain ⟨rfl, rfl, rfl⟩ := H
 go_enter Try.func33, Try.ntmps33
 go_wp2_with (first | ((with_reducible refine gate_dst (N := 0) rfl ?_); refine box_event ?hg (N := 0) ?hd (cs := #[.slice none 0 0, .int .i64 0, .slice none 0 0]) (t := 25) ?hr ?_; (case hd => rfl); (case hg => rfl); (case hr => first | (go_simp; done) | (go_simp; rfl)); intro gb215 hg w1 hbox hb; have n0_ := zK (yF (zl HB.out) hb); have n1_ := zK (hbox); have n2_ := zK ((by rw [hg]; exact (yG (zl HB.out)) : w.heap.size ≤ gb215)); have n3_ := zK ((by rw [hg]; exact (yG (zl HB.out)) : w.heap.size ≤ gb215)); clear HB; have HB := n0_; have BK215 := n1_; have GW215 := n2_; have GE215 := n3_; clear n0_ n1_ n2_ n3_; clear hb hbox hg; have hcz2_0 : w1.cell? ⟨gb215, 0, none⟩ = some (.slice none 0 0) := (zQ BK215.out 0).trans rfl; have hcz2_1 : w1.cell? ⟨gb215, 1, none⟩ = some (.int .i64 0) := (zQ BK215.out 1).trans rfl; have hcz2_2 : w1.cell? ⟨gb215, 2, none⟩ = some (.slice none 0 0) := (zQ BK215.out 2).trans rfl; have hfz2_0 := zR BK215.out 0; have hfz2_1 := zR BK215.out 1; have hfz2_2 := zR BK215.out 2))
 refine bodyPost_ret (results_cell_row rfl _ _ gb215 25 #[.slice none 0 0, .int .i64 (-1), .slice none 0 0] (0, 0) _ rfl (by (with_reducible repeat (first | refine zD ?_ _ | refine zE ?_ | refine zF ?_ _)); refine blk_put (cs := #[.slice none 0 0, .int .i64 (-1), .slice none 0 0]) ?_ 2 _ rfl; (with_reducible repeat (first | refine zD ?_ _ | refine zE ?_ | refine zF ?_ _)); refine blk_put (cs := #[.slice none 0 0, .int .i64 0, .slice none 0 0]) ?_ 1 _ rfl; (with_reducible repeat (first | refine zD ?_ _ | refine zE ?_ | refine zF ?_ _)); refine blk_put (cs := #[.slice none 0 0, .int .i64 0, .slice none 0 0]) ?_ 0 _ rfl; (with_reducible repeat (first | refine zD ?_ _ | refine zE ?_ | refine zF ?_ _)); exact BK215.out) Try.underlying25 rfl (by kernel_rfl)) rfl ?_
 exact ⟨_, _, by first | rfl | (simp [errW_none, errW_some] <;> rfl) | (simp [*, errW_none, errW_some] <;> rfl), by first | exact Kd.R_nil _ _ _ _ _ | exact Kd.N_nil _ _ _ _ _ | exact Kd.V_nil _ _ _ _ _ | exact Kd.Q_nil _ _ _ _ _ | exact Kd.S_nil _ _ _ _ _, by first | exact Kd.R_nil _ _ _ _ _ | exact Kd.N_nil _ _ _ _ _ | exact Kd.V_nil _ _ _ _ _ | exact Kd.Q_nil _ _ _ _ _ | exact Kd.S_nil _ _ _ _ _, zl HB.out⟩
def tollbarlaw17_item.f (a0 : Int) (a1 : Int) (a2 : Int) : Option (Int × Int × Int) := some (a0, a1, a2)
set_option maxHeartbeats 8000000 in
set_option maxRecDepth 100000 in
theorem tollbarlaw17_item.calls (a0 : Int) (a1 : Int) (a2 : Int) (r1 : Int) (r2 : Int) (r3 : Int) (w : World) (h : tollbarlaw17_item.f a0 a1 a2 = some (r1, r2, r3)) :
  Calls Try.prog 35 #[.int .i64 a0, .int .i64 a1, .int .i64 a2] w fun e w' => e = .returned (.agg #[.int .i64 r1, .int .i64 r2, .int .i64 r3]) ∧ Below w.heap.size w w' := by
 have hu50 := Try.underlying50
 have hu27 := Try.underlying27
 have HB := zK (Below.refl w.heap.size w)
 have H : (some (a0, a1, a2)) = some (r1, r2, r3) := h
 clear h
 simp only [Option.some.injEq, Prod.mk.injEq] at H
 obtain ⟨rfl, rfl, rfl⟩ := H
 go_enter Try.func35, Try.ntmps35
 go_wp2_with (first | ((with_reducible refine gate_dst (N := 6) rfl ?_); refine box_event ?hg (N := 6) ?hd (cs := #[.int .i64 0, .int .i64 0, .int .i64 0]) (t := 50) ?hr ?_; (case hd => rfl); (case hg => rfl); (case hr => first | (go_simp; done) | (go_simp; rfl)); intro gb216 hg w4 hbox hb; have n0_ := zK (yF (zl HB.out) hb); have n1_ := zK (hbox); have n2_ := zK ((by rw [hg]; exact (yG (zl HB.out)) : w.heap.size ≤ gb216)); have n3_ := zK ((by rw [hg]; exact (yG (zl HB.out)) : w.heap.size ≤ gb216)); clear HB; have HB := n0_; have BK216 := n1_; have GW216 := n2_; have GE216 := n3_; clear n0_ n1_ n2_ n3_; clear hb hbox hg; have hcz5_0 : w4.cell? ⟨gb216, 0, none⟩ = some (.int .i64 0) := (zQ BK216.out 0).trans rfl; have hcz5_1 : w4.cell? ⟨gb216, 1, none⟩ = some (.int .i64 0) := (zQ BK216.out 1).trans rfl; have hcz5_2 : w4.cell? ⟨gb216, 2, none⟩ = some (.int .i64 0) := (zQ BK216.out 2).trans rfl; have hfz5_0 := zR BK216.out 0; have hfz5_1 := zR BK216.out 1; have hfz5_2 := zR BK216.out 2))
 refine bodyPost_ret (results_cell_row rfl _ _ gb216 50 #[.int .i64 a0, .int .i64 a1, .int .i64 a2] (0, 0) _ rfl (by (with_reducible repeat (first | refine zD ?_ _ | refine zE ?_ | refine zF ?_ _)); refine blk_put (cs := #[.int .i64 a0, .int .i64 a1, .int .i64 0]) ?_ 2 _ rfl; (with_reducible repeat (first | refine zD ?_ _ | refine zE ?_ | refine zF ?_ _)); refine blk_put (cs := #[.int .i64 a0, .int .i64 0, .int .i64 0]) ?_ 1 _ rfl; (with_reducible repeat (first | refine zD ?_ _ | refine zE ?_ | refine zF ?_ _)); refine blk_put (cs := #[.int .i64 0, .int .i64 0, .int .i64 0]) ?_ 0 _ rfl; (with_reducible repeat (first | refine zD ?_ _ | refine zE ?_ | refine zF ?_ _)); exact BK216.out) Try.underlying50 rfl (by kernel_rfl)) rfl ?_
 exact ⟨ze, zl HB.out⟩
end Go.Proofs.Ytgkjpffbgnljeaa.QA
/- tollbarlaw17.awake answers true (printed by gen_treeZe.py). -/
set_option linter.unusedVariables false
set_option linter.unusedSimpArgs false
namespace Go.Proofs.Ytgkjpffbgnljeaa.Man
open Go.RowKit Go.Proofs.Ytgkjpffbgnljeaa.QT Go.Proofs.Ytgkjpffbgnljeaa.QA Go.Proofs.Ytgkjpffbgnljeaa.TreeM Go.Proofs.YtgkjpffbgnljeaaW.PrintWords Go.Proofs.YtgkjpffbgnljeaaW.PrintLast Go.Proofs.YtgkjpffbgnljeaaW.PrintMore
def TbR (W : World) (A : Option Addr) (c : Nat) (F : Option Addr) (cf : Nat) (ns : List Nd) (fr : List Int) : Prop := Kd.R k64 64 W 0 (fun _ => True) (.slice A ns.length c) ns ∧ Kd.R (Kd.int .i64) 3 W 0 (fun _ => True) (.slice F fr.length cf) fr
theorem TbR.below {W W' : World} {A : Option Addr} {c : Nat} {F : Option Addr} {cf : Nat} {ns : List Nd} {fr : List Int} (h : TbR W A c F cf ns fr) (hb : Below W.heap.size W W') : TbR W' A c F cf ns fr := ⟨Kd.R_below h.1 hb, Kd.R_below h.2 hb⟩
theorem TbR.belowN {W W' : World} {A : Option Addr} {c : Nat} {F : Option Addr} {cf : Nat} {ns : List Nd} {fr : List Int} (h : TbR W A c F cf ns fr) (hb : Below W.heap.size W W') (o : Obj) : TbR (W'.alloc o) A c F cf ns fr := ⟨Kd.R_alloc (Kd.R_below h.1 hb) o, Kd.R_alloc (Kd.R_below h.2 hb) o⟩
theorem TbR.alloc {W : World} {A : Option Addr} {c : Nat} {F : Option Addr} {cf : Nat} {ns : List Nd} {fr : List Int} (h : TbR W A c F cf ns fr) (o : Obj) : TbR (W.alloc o) A c F cf ns fr := ⟨Kd.R_alloc h.1 o, Kd.R_alloc h.2 o⟩
theorem TbR.set {W : World} {A : Option Addr} {c : Nat} {F : Option Addr} {cf : Nat} {ns : List Nd} {fr : List Int} {b : Nat} {cs : Array Value} (h : TbR W A c F cf ns fr) (hb : W.heap[b]? = some (.cells cs 25 (0, 0))) (j : Nat) (u : Value) : TbR (W.setCell ⟨b, j, none⟩ u) A c F cf ns fr :=
 ⟨Kd.R_set h.1 hb (by intro t ht; simp [k64, k50, k27, Kd.iso, Kd.pair, Kd.int, Kd.scalar] at ht; subst ht; decide) j u, Kd.R_set h.2 hb (by intro t ht; simp [Kd.int, Kd.scalar] at ht; subst ht; decide) j u⟩
theorem TbR.C {W : World} {A : Option Addr} {c : Nat} {F : Option Addr} {cf : Nat} {ns : List Nd} {fr : List Int} (h : TbR W A c F cf ns fr) : Kd.C k64 W A ns.length ns ∧ ns.length ≤ c ∧ Kd.C (Kd.int .i64) W F fr.length fr ∧ fr.length ≤ cf := by
 obtain ⟨A1, c1, e1, h1, hC1⟩ := Kd.R_reads h.1
 obtain ⟨A2, c2, e2, h2, hC2⟩ := Kd.R_reads h.2
 injection e1 with a1 a2 a3
 injection e2 with b1 b2 b3
 subst a1 a3 b1 b3
 exact ⟨hC1, h1, hC2, h2⟩
theorem TbR.of {W : World} {v0 v2 : Value} {ns : List Nd} {fr : List Int} {b1 b2 : Nat} (h : Kd.R k64 64 W b1 (fun _ => True) v0 ns) (g : Kd.R (Kd.int .i64) 3 W b2 (fun _ => True) v2 fr) : ∃ A c F cf, v0 = .slice A ns.length c ∧ v2 = .slice F fr.length cf ∧ TbR W A c F cf ns fr := by
 obtain ⟨A, c, rfl⟩ := Kd.R_slice h
 obtain ⟨F, cf, rfl⟩ := Kd.R_slice g
 exact ⟨A, c, F, cf, rfl, rfl, Kd.R_lower h (Nat.zero_le _), Kd.R_lower g (Nat.zero_le _)⟩
theorem new_call (w : World) : Calls Try.prog 33 #[] w fun e w' => ∃ A c F cf, e = .returned (.agg #[.slice A 0 c, .int .i64 (-1), .slice F 0 cf]) ∧ TbR w' A c F cf [] [] ∧ Below w.heap.size w w' :=
 (tree_New.calls [] (-1) [] w rfl).mono fun e w' ⟨v0, v2, he, h1, h2, hb⟩ => by
  obtain ⟨A, c, F, cf, rfl, rfl, hT⟩ := TbR.of h1 h2
  exact ⟨A, c, F, cf, he, hT, hb⟩
theorem item_call (a b c : Int) (w : World) : Calls Try.prog 35 #[.int .i64 a, .int .i64 b, .int .i64 c] w fun e w' => e = .returned (.agg #[.int .i64 a, .int .i64 b, .int .i64 c]) ∧ Below w.heap.size w w' := tollbarlaw17_item.calls a b c a b c w rfl
theorem ins_call {A : Option Addr} {c : Nat} {F : Option Addr} {cf : Nat} {ns : List Nd} {root : Int} {fr : List Int} {x1 x2 x3 : Int} {n' : List Nd} {r' : Int} {f' : List Int} {er : Int} {w : World} (hT : TbR w A c F cf ns fr) (E : tree_Insert.f ns root fr x1 x2 x3 = some (n', r', f', er)) :
  Calls Try.prog 26 #[.agg #[.slice A ns.length c, .int .i64 root, .slice F fr.length cf], .agg #[.int .i64 x1, .int .i64 x2, .int .i64 x3]] w fun e w' => ∃ A' c' F' cf', e = .returned (.tuple #[.agg #[.slice A' n'.length c', .int .i64 r', .slice F' f'.length cf'], .int .i64 er]) ∧ TbR w' A' c' F' cf' n' f' ∧ Below w.heap.size w w' :=
 (tree_Insert.calls A c ns root F cf fr x1 x2 x3 n' r' f' er w hT.C.1 hT.C.2.1 hT.C.2.2.1 hT.C.2.2.2 E).mono fun e w' ⟨v0, v2, he, h1, h2, hb⟩ => by
  obtain ⟨A, c, F, cf, rfl, rfl, hT⟩ := TbR.of h1 h2
  exact ⟨A, c, F, cf, he, hT, hb⟩
theorem del_call {A : Option Addr} {c : Nat} {F : Option Addr} {cf : Nat} {ns : List Nd} {root : Int} {fr : List Int} {x1 x2 x3 : Int} {n' : List Nd} {r' : Int} {f' : List Int} {er : Int} {w : World} (hT : TbR w A c F cf ns fr) (E : tree_Delete.f ns root fr x1 x2 x3 = some (n', r', f', er)) :
  Calls Try.prog 30 #[.agg #[.slice A ns.length c, .int .i64 root, .slice F fr.length cf], .agg #[.int .i64 x1, .int .i64 x2, .int .i64 x3]] w fun e w' => ∃ A' c' F' cf', e = .returned (.tuple #[.agg #[.slice A' n'.length c', .int .i64 r', .slice F' f'.length cf'], .int .i64 er]) ∧ TbR w' A' c' F' cf' n' f' ∧ Below w.heap.size w w' :=
 (tree_Delete.calls A c ns root F cf fr x1 x2 x3 n' r' f' er w hT.C.1 hT.C.2.1 hT.C.2.2.1 hT.C.2.2.2 E).mono fun e w' ⟨v0, v2, he, h1, h2, hb⟩ => by
  obtain ⟨A, c, F, cf, rfl, rfl, hT⟩ := TbR.of h1 h2
  exact ⟨A, c, F, cf, he, hT, hb⟩
theorem items_call {A : Option Addr} {c : Nat} {F : Option Addr} {cf : Nat} {ns : List Nd} {root : Int} {fr : List Int} {xs : List It} {er : Int} {w : World} (hT : TbR w A c F cf ns fr) (E : tree_Items.f ns root fr = some (xs, er)) :
  Calls Try.prog 13 #[.agg #[.slice A ns.length c, .int .i64 root, .slice F fr.length cf]] w fun e w' => ∃ B d, e = .returned (.tuple #[.slice B xs.length d, .int .i64 er]) ∧ xs.length ≤ d ∧ Kd.C k50 w' B xs.length xs ∧ Below w.heap.size w w' :=
 (tree_Items.calls A c ns root F cf fr xs er w hT.C.1 hT.C.2.1 hT.C.2.2.1 hT.C.2.2.2 E).mono fun e w' ⟨v0, he, h1, hb⟩ => by
  obtain ⟨B, d, rfl, hd, hC⟩ := Kd.R_reads h1
  exact ⟨B, d, he, hd, hC, hb⟩
theorem meets_call {A : Option Addr} {c : Nat} {F : Option Addr} {cf : Nat} {ns : List Nd} {root : Int} {fr : List Int} {s0 s1 : Int} {xs : List It} {er : Int} {w : World} (hT : TbR w A c F cf ns fr) (E : tree_Meets.f ns root fr s0 s1 = some (xs, er)) :
  Calls Try.prog 14 #[.agg #[.slice A ns.length c, .int .i64 root, .slice F fr.length cf], .agg #[.int .i64 s0, .int .i64 s1]] w fun e w' => ∃ B d, e = .returned (.tuple #[.slice B xs.length d, .int .i64 er]) ∧ xs.length ≤ d ∧ Kd.C k50 w' B xs.length xs ∧ Below w.heap.size w w' :=
 (tree_Meets.calls A c ns root F cf fr s0 s1 xs er w hT.C.1 hT.C.2.1 hT.C.2.2.1 hT.C.2.2.2 E).mono fun e w' ⟨v0, he, h1, hb⟩ => by
  obtain ⟨B, d, rfl, hd, hC⟩ := Kd.R_reads h1
  exact ⟨B, d, he, hd, hC, hb⟩
theorem points_call {A : Option Addr} {c : Nat} {F : Option Addr} {cf : Nat} {ns : List Nd} {root : Int} {fr : List Int} {s0 s1 : Int} {xs : List Int} {er : Int} {w : World} (hT : TbR w A c F cf ns fr) (E : tree_Points.f ns root fr s0 s1 = some (xs, er)) :
  Calls Try.prog 15 #[.agg #[.slice A ns.length c, .int .i64 root, .slice F fr.length cf], .agg #[.int .i64 s0, .int .i64 s1]] w fun e w' => ∃ B d, e = .returned (.tuple #[.slice B xs.length d, .int .i64 er]) ∧ xs.length ≤ d ∧ Kd.C (Kd.int .i64) w' B xs.length xs ∧ Below w.heap.size w w' :=
 (tree_Points.calls A c ns root F cf fr s0 s1 xs er w hT.C.1 hT.C.2.1 hT.C.2.2.1 hT.C.2.2.2 E).mono fun e w' ⟨v0, he, ⟨B, d, hv, hd, hF⟩, hb⟩ => by
  subst hv
  exact ⟨B, d, he, hd, hF w' (fun _ _ _ => rfl), hb⟩
theorem may_call {A : Option Addr} {c : Nat} {F : Option Addr} {cf : Nat} {ns : List Nd} {root : Int} {fr : List Int} {r : Bool} {w : World} (hT : TbR w A c F cf ns fr) (E : tree_May.f ns root fr = some r) :
  Calls Try.prog 16 #[.agg #[.slice A ns.length c, .int .i64 root, .slice F fr.length cf]] w fun e w' => e = .returned (.bool r) ∧ Below w.heap.size w w' :=
 tree_May.calls A c ns root F cf fr r w hT.C.1 hT.C.2.1 hT.C.2.2.1 hT.C.2.2.2 E
theorem num17_is (x : Int) (w : World) : Calls Try.prog 19 #[.int .i64 x] w fun e w' => e = .returned (.int .i64 x) ∧ w = w' := by
 go_enter Try.func19, Try.ntmps19
 go_wp2
 go_ret
 exact ⟨rfl, rfl⟩
theorem same_call {B : Option Addr} {d : Nat} {xs : List It} {w : World} (hd : xs.length ≤ d) (hC : Kd.C k50 w B xs.length xs) {B' : Option Addr} {d' : Nat} {ys : List It} (hd' : ys.length ≤ d') (hC' : Kd.C k50 w B' ys.length ys) (E : tollbarlaw0_SameItems.f 9 xs ys = some true) :
  Calls Try.prog 20 #[.slice B xs.length d, .slice B' ys.length d'] w fun e w' => e = .returned (.bool true) ∧ Below w.heap.size w w' :=
 (tollbarlaw0_SameItems.calls 9 B d xs B' d' ys true w hC hd hC' hd' E).mono fun e w' ⟨he, hb⟩ => ⟨he, hb.below⟩
theorem same_ints {B : Option Addr} {d : Nat} {xs : List Int} {w : World} (hd : xs.length ≤ d) (hC : Kd.C (Kd.int .i64) w B xs.length xs) {B' : Option Addr} {d' : Nat} {ys : List Int} (hd' : ys.length ≤ d') (hC' : Kd.C (Kd.int .i64) w B' ys.length ys) (E : tollbarlaw0_SameInts.f 9 xs ys = some true) :
  Calls Try.prog 24 #[.slice B xs.length d, .slice B' ys.length d'] w fun e w' => e = .returned (.bool true) ∧ Below w.heap.size w w' :=
 (tollbarlaw0_SameInts.calls 9 B d xs B' d' ys true w hC hd hC' hd' E).mono fun e w' ⟨he, hb⟩ => ⟨he, hb.below⟩
theorem lit1 (a b c : Int) (w : World) : Kd.C k50 (w.alloc (.cells #[.int .i64 a, .int .i64 b, .int .i64 c] 50)) (some ⟨w.heap.size, 0, none⟩) 1 [⟨⟨a, b⟩, c⟩] := by
 have h : Kd.R k50 50 (w.alloc (.cells #[.int .i64 a, .int .i64 b, .int .i64 c] 50)) w.heap.size (fun _ => True) (.slice (some ⟨w.heap.size, 0, none⟩) 1 1) [⟨⟨a, b⟩, c⟩] :=
  ⟨fun _ _ => trivial, _, World.ownsRow_lit (base := w.heap.size) (e := 50) (size := 3) w _ 1 (Nat.le_refl _) (by decide) rfl, Reps.snoc (Reps.none _ _) (k50_mkM _ _ _ ⟨⟨a, b⟩, c⟩) rfl⟩
 obtain ⟨A, c, e, _, hC⟩ := Kd.R_reads h
 injection e with e1 e2 e3
 rw [e1]
 exact hC
theorem lit2 (a b c a' b' c' : Int) (w : World) : Kd.C k50 (w.alloc (.cells #[.int .i64 a, .int .i64 b, .int .i64 c, .int .i64 a', .int .i64 b', .int .i64 c'] 50)) (some ⟨w.heap.size, 0, none⟩) 2 [⟨⟨a, b⟩, c⟩, ⟨⟨a', b'⟩, c'⟩] := by
 have h : Kd.R k50 50 (w.alloc (.cells #[.int .i64 a, .int .i64 b, .int .i64 c, .int .i64 a', .int .i64 b', .int .i64 c'] 50)) w.heap.size (fun _ => True) (.slice (some ⟨w.heap.size, 0, none⟩) 2 2) [⟨⟨a, b⟩, c⟩, ⟨⟨a', b'⟩, c'⟩] :=
  ⟨fun _ _ => trivial, _, World.ownsRow_lit (base := w.heap.size) (e := 50) (size := 3) w _ 2 (Nat.le_refl _) (by decide) rfl, Reps.snoc (Reps.snoc (Reps.none _ _) (k50_mkM _ _ _ ⟨⟨a, b⟩, c⟩) rfl) (k50_mkM _ _ _ ⟨⟨a', b'⟩, c'⟩) rfl⟩
 obtain ⟨A, c, e, _, hC⟩ := Kd.R_reads h
 injection e with e1 e2 e3
 rw [e1]
 exact hC
theorem lit3 (x y z : Int) (W : World) : (Kd.int .i64).C (W.alloc (.cells #[.int .i64 x, .int .i64 y, .int .i64 z] 3 (0, 0))) (some ⟨W.heap.size, 0, none⟩) 3 [x, y, z] := by
 refine Kd.C_of_reads (d := 0) ⟨rfl, by decide, fun _ => ⟨_, rfl, fun j hj => ?_⟩⟩
 have hb := blk_new W (.cells #[.int .i64 x, .int .i64 y, .int .i64 z] 3 (0, 0))
 rcases j with _ | _ | _ | j
 ·simp [Addr.add]
 ·simp [Addr.add]
 ·simp [Addr.add]
 ·omega
def treeObj (A : Option Addr) (n c : Nat) (root : Int) (F : Option Addr) (m cf : Nat) : Obj := .cells #[.slice A n c, .int .i64 root, .slice F m cf] 25 (0, 0)
def Gets (W W' : World) (b : Nat) (ns : List Nd) (root : Int) (fr : List Int) : Prop := ∃ A c F cf, W'.heap[b]? = some (treeObj A ns.length c root F fr.length cf) ∧ TbR W' A c F cf ns fr ∧ Below W.heap.size W W'
theorem gets_new {W w' : World} {A : Option Addr} {c : Nat} {F : Option Addr} {cf : Nat} {ns : List Nd} {root : Int} {fr : List Int} (hT : TbR w' A c F cf ns fr) (hB : Below W.heap.size W w') : Gets W (w'.alloc (.cells #[.slice A ns.length c, .int .i64 root, .slice F fr.length cf] 25 (0, 0))) w'.heap.size ns root fr :=
 ⟨A, c, F, cf, blk_new _ _, hT.alloc _, below_alloc hB _⟩
theorem gets_set {W w' : World} {A : Option Addr} {c : Nat} {F : Option Addr} {cf : Nat} {ns : List Nd} {root : Int} {fr : List Int} {b : Nat} {x0 x1 x2 : Value} (hT : TbR w' A c F cf ns fr) (hZ : w'.heap[b]? = some (.cells #[x0, x1, x2] 25 (0, 0))) (hB : Below W.heap.size W w') (hb : W.heap.size ≤ b) :
  Gets W (((w'.setCell ⟨b, 0, none⟩ (.slice A ns.length c)).setCell ⟨b, 1, none⟩ (.int .i64 root)).setCell ⟨b, 2, none⟩ (.slice F fr.length cf)) b ns root fr :=
 ⟨A, c, F, cf, by simpa [treeObj] using blk_set (blk_set (blk_set hZ 0 (.slice A ns.length c)) 1 (.int .i64 root)) 2 (.slice F fr.length cf), ((hT.set hZ 0 _).set (blk_set hZ 0 _) 1 _).set (blk_set (blk_set hZ 0 _) 1 _) 2 _, ((hB.setCell (p := ⟨b, 0, none⟩) hb _).setCell (p := ⟨b, 1, none⟩) hb _).setCell (p := ⟨b, 2, none⟩) hb _⟩
set_option maxHeartbeats 60000000 in
set_option maxRecDepth 100000 in
theorem awake17 (n1 n2 n3 : List Nd) (r1 r2 r3 : Int) (f1 f2 f3 : List Int)
  (E1 : tree_Insert.f [] (-1) [] 5 9 1 = some (n1, r1, f1, 0)) (E2 : tree_Insert.f n1 r1 f1 2 6 2 = some (n2, r2, f2, 0)) (E3 : tree_Items.f n2 r2 f2 = some ([⟨⟨2, 6⟩, 2⟩, ⟨⟨5, 9⟩, 1⟩], 0)) (E4 : tree_Meets.f n2 r2 f2 7 8 = some ([⟨⟨5, 9⟩, 1⟩], 0)) (E5 : tree_Points.f n2 r2 f2 0 9 = some ([2, 5, 6], 0))
  (E6 : tree_Insert.f n2 r2 f2 2 6 2 = some ([], 0, [], 1701)) (E7 : tree_Delete.f n2 r2 f2 5 9 1 = some (n3, r3, f3, 0)) (E8 : tree_Items.f n3 r3 f3 = some ([⟨⟨2, 6⟩, 2⟩], 0)) (E9 : tree_Delete.f n3 r3 f3 5 9 1 = some ([], 0, [], 1702)) (E10 : tree_May.f n2 r2 f2 = some true) (E11 : tree_May.f [] 0 [] = some false) (w : World) :
  Calls Try.prog 18 #[] w fun e w' => e = .returned (.bool true) ∧ Below w.heap.size w w' := by
 have HE1 := Lib.hid E1
 have HE2 := Lib.hid E2
 have HE3 := Lib.hid E3
 have HE4 := Lib.hid E4
 have HE5 := Lib.hid E5
 have HE6 := Lib.hid E6
 have HE7 := Lib.hid E7
 have HE8 := Lib.hid E8
 have HE9 := Lib.hid E9
 have HE10 := Lib.hid E10
 have HE11 := Lib.hid E11
 clear E1 E2 E3 E4 E5 E6 E7 E8 E9 E10 E11
 go_enter Try.func18, Try.ntmps18
 go_wp2_with fail
 refine (new_call w).mono ?_
 rintro e w1 ⟨A0, c0, F0, cf0, rfl, hT1, hb1⟩
 have HT1 := Lib.hid hT1
 have HB1 := Lib.hid hb1
 clear hT1 hb1
 go_wp2_with fail
 refine (item_call 5 9 1 w1).mono ?_
 rintro e w2 ⟨rfl, hb2⟩
 have HT2 := Lib.hid (HT1.out.below hb2)
 have HB2 := Lib.hid (below_then HB1.out HB1.out.size hb2)
 clear hb2 HT1 HB1
 go_wp2_with fail
 refine (ins_call HT2.out HE1.out).mono ?_
 rintro e w3 ⟨A1, c1, F1, cf1, rfl, hT3, hb3⟩
 have HT3 := Lib.hid hT3
 have HB3 := Lib.hid (below_then HB2.out HB2.out.size hb3)
 clear hb3 hT3 HT2 HB2
 go_upto_region 2 with fail
 have HG1 := Lib.hid (gets_new (root := r1) HT3.out HB3.out)
 generalize hWp : w3.alloc (.cells #[.slice A1 n1.length c1, .int .i64 r1, .slice F1 f1.length cf1] 25 (0, 0)) = wp at *
 obtain ⟨b1, hb1⟩ : ∃ b1, w3.heap.size = b1 := ⟨_, rfl⟩
 rw [hb1] at HG1 ⊢
 clear hb1 hWp HT3 HB3
 obtain ⟨A1, c1, F1, cf1, hk_, ht_, hB_⟩ := HG1.out
 have HKb1 := Lib.hid (show wp.heap[b1]? = some (.cells #[.slice A1 n1.length c1, .int .i64 r1, .slice F1 f1.length cf1] 25 (0, 0)) from hk_)
 have HRb1 := Lib.hid ht_
 have HBW := Lib.hid hB_
 clear hk_ ht_ hB_ HG1
 go_upto_region 2 with fail
 go_cut [3, 4] (fun sp se wx => ∃ b_, sp = .pointer (some ⟨b_, 0, none⟩) ∧ se = .int .i64 0 ∧ wp.heap.size ≤ b_ ∧ Gets wp wx b_ n2 r2 f2)
 case first =>
  have d00 := blk_cell (show wp.heap[b1]? = _ from HKb1.out) 0
  have d01 := blk_cell (show wp.heap[b1]? = _ from HKb1.out) 1
  have d02 := blk_cell (show wp.heap[b1]? = _ from HKb1.out) 2
  have d10 := blk_cell (show wp.drew.heap[b1]? = _ from HKb1.out) 0
  have d11 := blk_cell (show wp.drew.heap[b1]? = _ from HKb1.out) 1
  have d12 := blk_cell (show wp.drew.heap[b1]? = _ from HKb1.out) 2
  have d20 := blk_cell (show (wp.alloc (.cells #[.slice none 0 0, .int .i64 0, .slice none 0 0] 25 (0, 0))).heap[b1]? = _ from (blk_alloc HKb1.out (.cells #[.slice none 0 0, .int .i64 0, .slice none 0 0] 25 (0, 0)))) 0
  have d21 := blk_cell (show (wp.alloc (.cells #[.slice none 0 0, .int .i64 0, .slice none 0 0] 25 (0, 0))).heap[b1]? = _ from (blk_alloc HKb1.out (.cells #[.slice none 0 0, .int .i64 0, .slice none 0 0] 25 (0, 0)))) 1
  have d22 := blk_cell (show (wp.alloc (.cells #[.slice none 0 0, .int .i64 0, .slice none 0 0] 25 (0, 0))).heap[b1]? = _ from (blk_alloc HKb1.out (.cells #[.slice none 0 0, .int .i64 0, .slice none 0 0] 25 (0, 0)))) 2
  simp at d00 d01 d02 d10 d11 d12 d20 d21 d22
  have HBD : Hid (Below wp.heap.size wp wp.drew) := Lib.hid (below_drew (Below.refl _ _))
  have HLT : Hid (b1 < wp.heap.size) := Lib.hid (blk_lt HKb1.out)
  go_region_with (first | (go_at_call 35; refine (item_call 2 6 2 _).mono ?_; rintro e w2 ⟨rfl, hb2⟩; (try have HZ : Hid (w2.heap[wp.heap.size]? = some (.cells #[.slice none 0 0, .int .i64 0, .slice none 0 0] 25 (0, 0))) := Lib.hid (by first | exact blk_below (blk_new wp.drew _) hb2 | exact blk_below (show (World.drew (wp.alloc (.cells #[.slice none 0 0, .int .i64 0, .slice none 0 0] 25 (0, 0)))).heap[wp.heap.size]? = _ from blk_new _ _) hb2)); have HB2 : Hid (Below wp.heap.size wp w2) := Lib.hid (by first | exact below_then HBD.out HBD.out.size hb2 | exact below_then (below_alloc HBD.out _) (by simp) hb2 | exact below_then (show Below wp.heap.size wp (World.drew (wp.alloc (.cells #[.slice none 0 0, .int .i64 0, .slice none 0 0] 25 (0, 0)))) from below_drew (below_alloc (Below.refl _ _) _)) (by simp) hb2); have p0 := blk_cell (blk_below HKb1.out HB2.out) 0; have p1 := blk_cell (blk_below HKb1.out HB2.out) 1; have p2 := blk_cell (blk_below HKb1.out HB2.out) 2; have q0 := blk_cell (blk_alloc (blk_below HKb1.out HB2.out) (.cells #[.slice none 0 0, .int .i64 0, .slice none 0 0] 25 (0, 0))) 0; have q1 := blk_cell (blk_alloc (blk_below HKb1.out HB2.out) (.cells #[.slice none 0 0, .int .i64 0, .slice none 0 0] 25 (0, 0))) 1; have q2 := blk_cell (blk_alloc (blk_below HKb1.out HB2.out) (.cells #[.slice none 0 0, .int .i64 0, .slice none 0 0] 25 (0, 0))) 2; simp at p0 p1 p2 q0 q1 q2; clear hb2) | (go_at_call 26; (first | refine (ins_call (HRb1.out.below HB2.out) HE2.out).mono ?_ | refine (ins_call (HRb1.out.belowN HB2.out _) HE2.out).mono ?_); rintro e w3 ⟨A3, c3, F3, cf3, rfl, hT3, hb3⟩; (first | (have HZ3 : Hid (w3.heap[wp.heap.size]? = some (.cells #[.slice none 0 0, .int .i64 0, .slice none 0 0] 25 (0, 0))) := Lib.hid (blk_below HZ.out hb3)) | (have HZ3 : Hid (w3.heap[w2.heap.size]? = some (.cells #[.slice none 0 0, .int .i64 0, .slice none 0 0] 25 (0, 0))) := Lib.hid (blk_below (blk_new w2 _) hb3)) | skip); (try (have f0 := blk_frozen HZ3.out 0; have f1 := blk_frozen HZ3.out 1; have f2 := blk_frozen HZ3.out 2; have g0 := blk_cell HZ3.out 0; have g1 := blk_cell HZ3.out 1; have g2 := blk_cell HZ3.out 2; simp at g0 g1 g2)); have HT3 := Lib.hid hT3; have HB3 : Hid (Below wp.heap.size wp w3) := Lib.hid (by first | exact below_then HB2.out HB2.out.size hb3 | exact below_then (below_alloc HB2.out _) (Nat.le_trans HB2.out.size (by simp)) hb3); clear hb3 hT3))
  all_goals
   go_wp2_with fail
   go_meet
   first
    | exact ⟨_, rfl, rfl, (by first | exact Nat.le_refl _ | exact HB2.out.size), gets_set HT3.out HZ3.out HB3.out (by first | exact Nat.le_refl _ | exact HB2.out.size)⟩
    | exact ⟨_, rfl, rfl, HB3.out.size, gets_new HT3.out HB3.out⟩
 case rest =>
 obtain ⟨b3, rfl, rfl, hs_, hg_⟩ := hcut
 obtain ⟨A3, c3, F3, cf3, hk_, ht_, hB_⟩ := hg_
 replace HKb1 := Lib.hid (blk_below HKb1.out hB_)
 replace HRb1 := Lib.hid (HRb1.out.below hB_)
 have HKb3 := Lib.hid (show wc.heap[b3]? = some (.cells #[.slice A3 n2.length c3, .int .i64 r2, .slice F3 f2.length cf3] 25 (0, 0)) from hk_)
 have HRb3 := Lib.hid ht_
 replace HBW := Lib.hid (below_then HBW.out HBW.out.size hB_)
 clear hk_ ht_ hB_ hs_
 have p0 := blk_cell HKb3.out 0
 have p1 := blk_cell HKb3.out 1
 have p2 := blk_cell HKb3.out 2
 simp at p0 p1 p2
 go_wp2_with fail
 refine (items_call HRb3.out HE3.out).mono ?_
 rintro e w5 ⟨B5, d5, rfl, hd_, hc_, hb_⟩
 replace HKb1 := Lib.hid (blk_below HKb1.out hb_)
 replace HRb1 := Lib.hid (HRb1.out.below hb_)
 replace HKb3 := Lib.hid (blk_below HKb3.out hb_)
 replace HRb3 := Lib.hid (HRb3.out.below hb_)
 replace HBW := Lib.hid (below_then HBW.out HBW.out.size hb_)
 have HD5 := Lib.hid hd_
 have HC5 := Lib.hid hc_
 clear p0 p1 p2 hb_ hd_ hc_
 have p0 := blk_cell HKb3.out 0
 have p1 := blk_cell HKb3.out 1
 have p2 := blk_cell HKb3.out 2
 simp at p0 p1 p2
 go_wp2_with fail
 refine (meets_call HRb3.out HE4.out).mono ?_
 rintro e w7 ⟨B7, d7, rfl, hd_, hc_, hb_⟩
 replace HKb1 := Lib.hid (blk_below HKb1.out hb_)
 replace HRb1 := Lib.hid (HRb1.out.below hb_)
 replace HKb3 := Lib.hid (blk_below HKb3.out hb_)
 replace HRb3 := Lib.hid (HRb3.out.below hb_)
 replace HC5 := Lib.hid (Kd.C_below HC5.out hb_)
 replace HBW := Lib.hid (below_then HBW.out HBW.out.size hb_)
 have HD7 := Lib.hid hd_
 have HC7 := Lib.hid hc_
 clear p0 p1 p2 hb_ hd_ hc_
 have p0 := blk_cell HKb3.out 0
 have p1 := blk_cell HKb3.out 1
 have p2 := blk_cell HKb3.out 2
 simp at p0 p1 p2
 go_wp2_with fail
 refine (points_call HRb3.out HE5.out).mono ?_
 rintro e w9 ⟨B9, d9, rfl, hd_, hc_, hb_⟩
 replace HKb1 := Lib.hid (blk_below HKb1.out hb_)
 replace HRb1 := Lib.hid (HRb1.out.below hb_)
 replace HKb3 := Lib.hid (blk_below HKb3.out hb_)
 replace HRb3 := Lib.hid (HRb3.out.below hb_)
 replace HC5 := Lib.hid (Kd.C_below HC5.out hb_)
 replace HC7 := Lib.hid (Kd.C_below HC7.out hb_)
 replace HBW := Lib.hid (below_then HBW.out HBW.out.size hb_)
 have HD9 := Lib.hid hd_
 have HC9 := Lib.hid hc_
 clear p0 p1 p2 hb_ hd_ hc_
 go_upto_region 6 with fail
 go_cut [11, 12] (fun sp se wx => ∃ b_, sp = .pointer (some ⟨b_, 0, none⟩) ∧ se = .int .i64 1701 ∧ Below w9.heap.size w9 wx)
 case first =>
  have d00 := blk_cell (show w9.heap[b3]? = _ from HKb3.out) 0
  have d01 := blk_cell (show w9.heap[b3]? = _ from HKb3.out) 1
  have d02 := blk_cell (show w9.heap[b3]? = _ from HKb3.out) 2
  have d10 := blk_cell (show w9.drew.heap[b3]? = _ from HKb3.out) 0
  have d11 := blk_cell (show w9.drew.heap[b3]? = _ from HKb3.out) 1
  have d12 := blk_cell (show w9.drew.heap[b3]? = _ from HKb3.out) 2
  have d20 := blk_cell (show (w9.alloc (.cells #[.slice none 0 0, .int .i64 0, .slice none 0 0] 25 (0, 0))).heap[b3]? = _ from (blk_alloc HKb3.out (.cells #[.slice none 0 0, .int .i64 0, .slice none 0 0] 25 (0, 0)))) 0
  have d21 := blk_cell (show (w9.alloc (.cells #[.slice none 0 0, .int .i64 0, .slice none 0 0] 25 (0, 0))).heap[b3]? = _ from (blk_alloc HKb3.out (.cells #[.slice none 0 0, .int .i64 0, .slice none 0 0] 25 (0, 0)))) 1
  have d22 := blk_cell (show (w9.alloc (.cells #[.slice none 0 0, .int .i64 0, .slice none 0 0] 25 (0, 0))).heap[b3]? = _ from (blk_alloc HKb3.out (.cells #[.slice none 0 0, .int .i64 0, .slice none 0 0] 25 (0, 0)))) 2
  simp at d00 d01 d02 d10 d11 d12 d20 d21 d22
  have HBD : Hid (Below w9.heap.size w9 w9.drew) := Lib.hid (below_drew (Below.refl _ _))
  have HLT : Hid (b3 < w9.heap.size) := Lib.hid (blk_lt HKb3.out)
  go_region_with (first | (go_at_call 35; refine (item_call 2 6 2 _).mono ?_; rintro e w2 ⟨rfl, hb2⟩; (try have HZ : Hid (w2.heap[w9.heap.size]? = some (.cells #[.slice none 0 0, .int .i64 0, .slice none 0 0] 25 (0, 0))) := Lib.hid (by first | exact blk_below (blk_new w9.drew _) hb2 | exact blk_below (show (World.drew (w9.alloc (.cells #[.slice none 0 0, .int .i64 0, .slice none 0 0] 25 (0, 0)))).heap[w9.heap.size]? = _ from blk_new _ _) hb2)); have HB2 : Hid (Below w9.heap.size w9 w2) := Lib.hid (by first | exact below_then HBD.out HBD.out.size hb2 | exact below_then (below_alloc HBD.out _) (by simp) hb2 | exact below_then (show Below w9.heap.size w9 (World.drew (w9.alloc (.cells #[.slice none 0 0, .int .i64 0, .slice none 0 0] 25 (0, 0)))) from below_drew (below_alloc (Below.refl _ _) _)) (by simp) hb2); have p0 := blk_cell (blk_below HKb3.out HB2.out) 0; have p1 := blk_cell (blk_below HKb3.out HB2.out) 1; have p2 := blk_cell (blk_below HKb3.out HB2.out) 2; have q0 := blk_cell (blk_alloc (blk_below HKb3.out HB2.out) (.cells #[.slice none 0 0, .int .i64 0, .slice none 0 0] 25 (0, 0))) 0; have q1 := blk_cell (blk_alloc (blk_below HKb3.out HB2.out) (.cells #[.slice none 0 0, .int .i64 0, .slice none 0 0] 25 (0, 0))) 1; have q2 := blk_cell (blk_alloc (blk_below HKb3.out HB2.out) (.cells #[.slice none 0 0, .int .i64 0, .slice none 0 0] 25 (0, 0))) 2; simp at p0 p1 p2 q0 q1 q2; clear hb2) | (go_at_call 26; (first | refine (ins_call (HRb3.out.below HB2.out) HE6.out).mono ?_ | refine (ins_call (HRb3.out.belowN HB2.out _) HE6.out).mono ?_); rintro e w3 ⟨A3, c3, F3, cf3, rfl, hT3, hb3⟩; (first | (have HZ3 : Hid (w3.heap[w9.heap.size]? = some (.cells #[.slice none 0 0, .int .i64 0, .slice none 0 0] 25 (0, 0))) := Lib.hid (blk_below HZ.out hb3)) | (have HZ3 : Hid (w3.heap[w2.heap.size]? = some (.cells #[.slice none 0 0, .int .i64 0, .slice none 0 0] 25 (0, 0))) := Lib.hid (blk_below (blk_new w2 _) hb3)) | skip); (try (have f0 := blk_frozen HZ3.out 0; have f1 := blk_frozen HZ3.out 1; have f2 := blk_frozen HZ3.out 2; have g0 := blk_cell HZ3.out 0; have g1 := blk_cell HZ3.out 1; have g2 := blk_cell HZ3.out 2; simp at g0 g1 g2)); have HT3 := Lib.hid hT3; have HB3 : Hid (Below w9.heap.size w9 w3) := Lib.hid (by first | exact below_then HB2.out HB2.out.size hb3 | exact below_then (below_alloc HB2.out _) (Nat.le_trans HB2.out.size (by simp)) hb3); clear hb3 hT3))
  all_goals
   go_wp2_with fail
   go_meet
   first
    | exact (fun _ : _ = _ => ⟨_, rfl, rfl, below_set (below_set (below_set HB3.out (by first | exact Nat.le_refl _ | exact HB2.out.size)) (by first | exact Nat.le_refl _ | exact HB2.out.size)) (by first | exact Nat.le_refl _ | exact HB2.out.size)⟩) HZ3.out
    | exact ⟨_, rfl, rfl, below_alloc HB3.out _⟩
 case rest =>
 obtain ⟨b11, rfl, rfl, hB_⟩ := hcut
 replace HKb1 := Lib.hid (blk_below HKb1.out hB_)
 replace HRb1 := Lib.hid (HRb1.out.below hB_)
 replace HKb3 := Lib.hid (blk_below HKb3.out hB_)
 replace HRb3 := Lib.hid (HRb3.out.below hB_)
 replace HC5 := Lib.hid (Kd.C_below HC5.out hB_)
 replace HC7 := Lib.hid (Kd.C_below HC7.out hB_)
 replace HC9 := Lib.hid (Kd.C_below HC9.out hB_)
 replace HBW := Lib.hid (below_then HBW.out HBW.out.size hB_)
 clear hB_
 generalize wc = w11 at *
 go_upto_region 7 with fail
 go_cut [13, 14] (fun sp se wx => ∃ b_, sp = .pointer (some ⟨b_, 0, none⟩) ∧ se = .int .i64 0 ∧ w11.heap.size ≤ b_ ∧ Gets w11 wx b_ n3 r3 f3)
 case first =>
  have d00 := blk_cell (show w11.heap[b3]? = _ from HKb3.out) 0
  have d01 := blk_cell (show w11.heap[b3]? = _ from HKb3.out) 1
  have d02 := blk_cell (show w11.heap[b3]? = _ from HKb3.out) 2
  have d10 := blk_cell (show w11.drew.heap[b3]? = _ from HKb3.out) 0
  have d11 := blk_cell (show w11.drew.heap[b3]? = _ from HKb3.out) 1
  have d12 := blk_cell (show w11.drew.heap[b3]? = _ from HKb3.out) 2
  have d20 := blk_cell (show (w11.alloc (.cells #[.slice none 0 0, .int .i64 0, .slice none 0 0] 25 (0, 0))).heap[b3]? = _ from (blk_alloc HKb3.out (.cells #[.slice none 0 0, .int .i64 0, .slice none 0 0] 25 (0, 0)))) 0
  have d21 := blk_cell (show (w11.alloc (.cells #[.slice none 0 0, .int .i64 0, .slice none 0 0] 25 (0, 0))).heap[b3]? = _ from (blk_alloc HKb3.out (.cells #[.slice none 0 0, .int .i64 0, .slice none 0 0] 25 (0, 0)))) 1
  have d22 := blk_cell (show (w11.alloc (.cells #[.slice none 0 0, .int .i64 0, .slice none 0 0] 25 (0, 0))).heap[b3]? = _ from (blk_alloc HKb3.out (.cells #[.slice none 0 0, .int .i64 0, .slice none 0 0] 25 (0, 0)))) 2
  simp at d00 d01 d02 d10 d11 d12 d20 d21 d22
  have HBD : Hid (Below w11.heap.size w11 w11.drew) := Lib.hid (below_drew (Below.refl _ _))
  have HLT : Hid (b3 < w11.heap.size) := Lib.hid (blk_lt HKb3.out)
  go_region_with (first | (go_at_call 35; refine (item_call 5 9 1 _).mono ?_; rintro e w2 ⟨rfl, hb2⟩; (try have HZ : Hid (w2.heap[w11.heap.size]? = some (.cells #[.slice none 0 0, .int .i64 0, .slice none 0 0] 25 (0, 0))) := Lib.hid (by first | exact blk_below (blk_new w11.drew _) hb2 | exact blk_below (show (World.drew (w11.alloc (.cells #[.slice none 0 0, .int .i64 0, .slice none 0 0] 25 (0, 0)))).heap[w11.heap.size]? = _ from blk_new _ _) hb2)); have HB2 : Hid (Below w11.heap.size w11 w2) := Lib.hid (by first | exact below_then HBD.out HBD.out.size hb2 | exact below_then (below_alloc HBD.out _) (by simp) hb2 | exact below_then (show Below w11.heap.size w11 (World.drew (w11.alloc (.cells #[.slice none 0 0, .int .i64 0, .slice none 0 0] 25 (0, 0)))) from below_drew (below_alloc (Below.refl _ _) _)) (by simp) hb2); have p0 := blk_cell (blk_below HKb3.out HB2.out) 0; have p1 := blk_cell (blk_below HKb3.out HB2.out) 1; have p2 := blk_cell (blk_below HKb3.out HB2.out) 2; have q0 := blk_cell (blk_alloc (blk_below HKb3.out HB2.out) (.cells #[.slice none 0 0, .int .i64 0, .slice none 0 0] 25 (0, 0))) 0; have q1 := blk_cell (blk_alloc (blk_below HKb3.out HB2.out) (.cells #[.slice none 0 0, .int .i64 0, .slice none 0 0] 25 (0, 0))) 1; have q2 := blk_cell (blk_alloc (blk_below HKb3.out HB2.out) (.cells #[.slice none 0 0, .int .i64 0, .slice none 0 0] 25 (0, 0))) 2; simp at p0 p1 p2 q0 q1 q2; clear hb2) | (go_at_call 30; (first | refine (del_call (HRb3.out.below HB2.out) HE7.out).mono ?_ | refine (del_call (HRb3.out.belowN HB2.out _) HE7.out).mono ?_); rintro e w3 ⟨A3, c3, F3, cf3, rfl, hT3, hb3⟩; (first | (have HZ3 : Hid (w3.heap[w11.heap.size]? = some (.cells #[.slice none 0 0, .int .i64 0, .slice none 0 0] 25 (0, 0))) := Lib.hid (blk_below HZ.out hb3)) | (have HZ3 : Hid (w3.heap[w2.heap.size]? = some (.cells #[.slice none 0 0, .int .i64 0, .slice none 0 0] 25 (0, 0))) := Lib.hid (blk_below (blk_new w2 _) hb3)) | skip); (try (have f0 := blk_frozen HZ3.out 0; have f1 := blk_frozen HZ3.out 1; have f2 := blk_frozen HZ3.out 2; have g0 := blk_cell HZ3.out 0; have g1 := blk_cell HZ3.out 1; have g2 := blk_cell HZ3.out 2; simp at g0 g1 g2)); have HT3 := Lib.hid hT3; have HB3 : Hid (Below w11.heap.size w11 w3) := Lib.hid (by first | exact below_then HB2.out HB2.out.size hb3 | exact below_then (below_alloc HB2.out _) (Nat.le_trans HB2.out.size (by simp)) hb3); clear hb3 hT3))
  all_goals
   go_wp2_with fail
   go_meet
   first
    | exact ⟨_, rfl, rfl, (by first | exact Nat.le_refl _ | exact HB2.out.size), gets_set HT3.out HZ3.out HB3.out (by first | exact Nat.le_refl _ | exact HB2.out.size)⟩
    | exact ⟨_, rfl, rfl, HB3.out.size, gets_new HT3.out HB3.out⟩
 case rest =>
 obtain ⟨b13, rfl, rfl, hs_, hg_⟩ := hcut
 obtain ⟨A13, c13, F13, cf13, hk_, ht_, hB_⟩ := hg_
 replace HKb1 := Lib.hid (blk_below HKb1.out hB_)
 replace HRb1 := Lib.hid (HRb1.out.below hB_)
 replace HKb3 := Lib.hid (blk_below HKb3.out hB_)
 replace HRb3 := Lib.hid (HRb3.out.below hB_)
 replace HC5 := Lib.hid (Kd.C_below HC5.out hB_)
 replace HC7 := Lib.hid (Kd.C_below HC7.out hB_)
 replace HC9 := Lib.hid (Kd.C_below HC9.out hB_)
 have HKb13 := Lib.hid (show wc.heap[b13]? = some (.cells #[.slice A13 n3.length c13, .int .i64 r3, .slice F13 f3.length cf13] 25 (0, 0)) from hk_)
 have HRb13 := Lib.hid ht_
 replace HBW := Lib.hid (below_then HBW.out HBW.out.size hB_)
 clear hk_ ht_ hB_ hs_
 generalize wc = w13 at *
 have p0 := blk_cell HKb13.out 0
 have p1 := blk_cell HKb13.out 1
 have p2 := blk_cell HKb13.out 2
 simp at p0 p1 p2
 go_wp2_with fail
 refine (items_call HRb13.out HE8.out).mono ?_
 rintro e w15 ⟨B15, d15, rfl, hd_, hc_, hb_⟩
 replace HKb1 := Lib.hid (blk_below HKb1.out hb_)
 replace HRb1 := Lib.hid (HRb1.out.below hb_)
 replace HKb3 := Lib.hid (blk_below HKb3.out hb_)
 replace HRb3 := Lib.hid (HRb3.out.below hb_)
 replace HC5 := Lib.hid (Kd.C_below HC5.out hb_)
 replace HC7 := Lib.hid (Kd.C_below HC7.out hb_)
 replace HC9 := Lib.hid (Kd.C_below HC9.out hb_)
 replace HKb13 := Lib.hid (blk_below HKb13.out hb_)
 replace HRb13 := Lib.hid (HRb13.out.below hb_)
 replace HBW := Lib.hid (below_then HBW.out HBW.out.size hb_)
 have HD15 := Lib.hid hd_
 have HC15 := Lib.hid hc_
 clear p0 p1 p2 hb_ hd_ hc_
 go_upto_region 9 with fail
 go_cut [17, 18] (fun sp se wx => ∃ b_, sp = .pointer (some ⟨b_, 0, none⟩) ∧ se = .int .i64 1702 ∧ Below w15.heap.size w15 wx)
 case first =>
  have d00 := blk_cell (show w15.heap[b13]? = _ from HKb13.out) 0
  have d01 := blk_cell (show w15.heap[b13]? = _ from HKb13.out) 1
  have d02 := blk_cell (show w15.heap[b13]? = _ from HKb13.out) 2
  have d10 := blk_cell (show w15.drew.heap[b13]? = _ from HKb13.out) 0
  have d11 := blk_cell (show w15.drew.heap[b13]? = _ from HKb13.out) 1
  have d12 := blk_cell (show w15.drew.heap[b13]? = _ from HKb13.out) 2
  have d20 := blk_cell (show (w15.alloc (.cells #[.slice none 0 0, .int .i64 0, .slice none 0 0] 25 (0, 0))).heap[b13]? = _ from (blk_alloc HKb13.out (.cells #[.slice none 0 0, .int .i64 0, .slice none 0 0] 25 (0, 0)))) 0
  have d21 := blk_cell (show (w15.alloc (.cells #[.slice none 0 0, .int .i64 0, .slice none 0 0] 25 (0, 0))).heap[b13]? = _ from (blk_alloc HKb13.out (.cells #[.slice none 0 0, .int .i64 0, .slice none 0 0] 25 (0, 0)))) 1
  have d22 := blk_cell (show (w15.alloc (.cells #[.slice none 0 0, .int .i64 0, .slice none 0 0] 25 (0, 0))).heap[b13]? = _ from (blk_alloc HKb13.out (.cells #[.slice none 0 0, .int .i64 0, .slice none 0 0] 25 (0, 0)))) 2
  simp at d00 d01 d02 d10 d11 d12 d20 d21 d22
  have HBD : Hid (Below w15.heap.size w15 w15.drew) := Lib.hid (below_drew (Below.refl _ _))
  have HLT : Hid (b13 < w15.heap.size) := Lib.hid (blk_lt HKb13.out)
  go_region_with (first | (go_at_call 35; refine (item_call 5 9 1 _).mono ?_; rintro e w2 ⟨rfl, hb2⟩; (try have HZ : Hid (w2.heap[w15.heap.size]? = some (.cells #[.slice none 0 0, .int .i64 0, .slice none 0 0] 25 (0, 0))) := Lib.hid (by first | exact blk_below (blk_new w15.drew _) hb2 | exact blk_below (show (World.drew (w15.alloc (.cells #[.slice none 0 0, .int .i64 0, .slice none 0 0] 25 (0, 0)))).heap[w15.heap.size]? = _ from blk_new _ _) hb2)); have HB2 : Hid (Below w15.heap.size w15 w2) := Lib.hid (by first | exact below_then HBD.out HBD.out.size hb2 | exact below_then (below_alloc HBD.out _) (by simp) hb2 | exact below_then (show Below w15.heap.size w15 (World.drew (w15.alloc (.cells #[.slice none 0 0, .int .i64 0, .slice none 0 0] 25 (0, 0)))) from below_drew (below_alloc (Below.refl _ _) _)) (by simp) hb2); have p0 := blk_cell (blk_below HKb13.out HB2.out) 0; have p1 := blk_cell (blk_below HKb13.out HB2.out) 1; have p2 := blk_cell (blk_below HKb13.out HB2.out) 2; have q0 := blk_cell (blk_alloc (blk_below HKb13.out HB2.out) (.cells #[.slice none 0 0, .int .i64 0, .slice none 0 0] 25 (0, 0))) 0; have q1 := blk_cell (blk_alloc (blk_below HKb13.out HB2.out) (.cells #[.slice none 0 0, .int .i64 0, .slice none 0 0] 25 (0, 0))) 1; have q2 := blk_cell (blk_alloc (blk_below HKb13.out HB2.out) (.cells #[.slice none 0 0, .int .i64 0, .slice none 0 0] 25 (0, 0))) 2; simp at p0 p1 p2 q0 q1 q2; clear hb2) | (go_at_call 30; (first | refine (del_call (HRb13.out.below HB2.out) HE9.out).mono ?_ | refine (del_call (HRb13.out.belowN HB2.out _) HE9.out).mono ?_); rintro e w3 ⟨A3, c3, F3, cf3, rfl, hT3, hb3⟩; (first | (have HZ3 : Hid (w3.heap[w15.heap.size]? = some (.cells #[.slice none 0 0, .int .i64 0, .slice none 0 0] 25 (0, 0))) := Lib.hid (blk_below HZ.out hb3)) | (have HZ3 : Hid (w3.heap[w2.heap.size]? = some (.cells #[.slice none 0 0, .int .i64 0, .slice none 0 0] 25 (0, 0))) := Lib.hid (blk_below (blk_new w2 _) hb3)) | skip); (try (have f0 := blk_frozen HZ3.out 0; have f1 := blk_frozen HZ3.out 1; have f2 := blk_frozen HZ3.out 2; have g0 := blk_cell HZ3.out 0; have g1 := blk_cell HZ3.out 1; have g2 := blk_cell HZ3.out 2; simp at g0 g1 g2)); have HT3 := Lib.hid hT3; have HB3 : Hid (Below w15.heap.size w15 w3) := Lib.hid (by first | exact below_then HB2.out HB2.out.size hb3 | exact below_then (below_alloc HB2.out _) (Nat.le_trans HB2.out.size (by simp)) hb3); clear hb3 hT3))
  all_goals
   go_wp2_with fail
   go_meet
   first
    | exact (fun _ : _ = _ => ⟨_, rfl, rfl, below_set (below_set (below_set HB3.out (by first | exact Nat.le_refl _ | exact HB2.out.size)) (by first | exact Nat.le_refl _ | exact HB2.out.size)) (by first | exact Nat.le_refl _ | exact HB2.out.size)⟩) HZ3.out
    | exact ⟨_, rfl, rfl, below_alloc HB3.out _⟩
 case rest =>
 obtain ⟨b17, rfl, rfl, hB_⟩ := hcut
 replace HKb1 := Lib.hid (blk_below HKb1.out hB_)
 replace HRb1 := Lib.hid (HRb1.out.below hB_)
 replace HKb3 := Lib.hid (blk_below HKb3.out hB_)
 replace HRb3 := Lib.hid (HRb3.out.below hB_)
 replace HC5 := Lib.hid (Kd.C_below HC5.out hB_)
 replace HC7 := Lib.hid (Kd.C_below HC7.out hB_)
 replace HC9 := Lib.hid (Kd.C_below HC9.out hB_)
 replace HKb13 := Lib.hid (blk_below HKb13.out hB_)
 replace HRb13 := Lib.hid (HRb13.out.below hB_)
 replace HC15 := Lib.hid (Kd.C_below HC15.out hB_)
 replace HBW := Lib.hid (below_then HBW.out HBW.out.size hB_)
 clear hB_
 generalize wc = w17 at *
 have p0 := blk_cell HKb3.out 0
 have p1 := blk_cell HKb3.out 1
 have p2 := blk_cell HKb3.out 2
 simp at p0 p1 p2
 go_wp2_with fail
 refine (num17_is 0 w17).mono ?_
 rintro e _ ⟨rfl, rfl⟩
 go_wp2_with fail
 refine (num17_is 0 w17).mono ?_
 rintro e _ ⟨rfl, rfl⟩
 go_wp2_with fail
 refine (may_call HRb3.out HE10.out).mono ?_
 rintro e y0 ⟨rfl, hb_⟩
 replace HKb1 := Lib.hid (blk_below HKb1.out hb_)
 replace HRb1 := Lib.hid (HRb1.out.below hb_)
 replace HKb3 := Lib.hid (blk_below HKb3.out hb_)
 replace HRb3 := Lib.hid (HRb3.out.below hb_)
 replace HC5 := Lib.hid (Kd.C_below HC5.out hb_)
 replace HC7 := Lib.hid (Kd.C_below HC7.out hb_)
 replace HC9 := Lib.hid (Kd.C_below HC9.out hb_)
 replace HKb13 := Lib.hid (blk_below HKb13.out hb_)
 replace HRb13 := Lib.hid (HRb13.out.below hb_)
 replace HC15 := Lib.hid (Kd.C_below HC15.out hb_)
 replace HBW := Lib.hid (below_then HBW.out HBW.out.size hb_)
 clear hb_ p0 p1 p2
 go_wp2_with fail
 refine (item_call 2 6 2 y0).mono ?_
 rintro e y1 ⟨rfl, hb_⟩
 replace HKb1 := Lib.hid (blk_below HKb1.out hb_)
 replace HRb1 := Lib.hid (HRb1.out.below hb_)
 replace HKb3 := Lib.hid (blk_below HKb3.out hb_)
 replace HRb3 := Lib.hid (HRb3.out.below hb_)
 replace HC5 := Lib.hid (Kd.C_below HC5.out hb_)
 replace HC7 := Lib.hid (Kd.C_below HC7.out hb_)
 replace HC9 := Lib.hid (Kd.C_below HC9.out hb_)
 replace HKb13 := Lib.hid (blk_below HKb13.out hb_)
 replace HRb13 := Lib.hid (HRb13.out.below hb_)
 replace HC15 := Lib.hid (Kd.C_below HC15.out hb_)
 replace HBW := Lib.hid (below_then HBW.out HBW.out.size hb_)
 clear hb_
 go_wp2_with fail
 refine (item_call 5 9 1 y1).mono ?_
 rintro e y2 ⟨rfl, hb_⟩
 replace HKb1 := Lib.hid (blk_below HKb1.out hb_)
 replace HRb1 := Lib.hid (HRb1.out.below hb_)
 replace HKb3 := Lib.hid (blk_below HKb3.out hb_)
 replace HRb3 := Lib.hid (HRb3.out.below hb_)
 replace HC5 := Lib.hid (Kd.C_below HC5.out hb_)
 replace HC7 := Lib.hid (Kd.C_below HC7.out hb_)
 replace HC9 := Lib.hid (Kd.C_below HC9.out hb_)
 replace HKb13 := Lib.hid (blk_below HKb13.out hb_)
 replace HRb13 := Lib.hid (HRb13.out.below hb_)
 replace HC15 := Lib.hid (Kd.C_below HC15.out hb_)
 replace HBW := Lib.hid (below_then HBW.out HBW.out.size hb_)
 clear hb_
 go_wp2_with fail
 have HL := Lib.hid (lit2 2 6 2 5 9 1 y2)
 have hba := below_alloc (Below.refl y2.heap.size y2) (.cells #[.int .i64 2, .int .i64 6, .int .i64 2, .int .i64 5, .int .i64 9, .int .i64 1] 50)
 refine (same_call HD5.out (Kd.C_below HC5.out hba) (by decide) HL.out (by decide +kernel)).mono ?_
 rintro e y3 ⟨rfl, hb_⟩
 replace hb_ := below_then hba hba.size hb_
 replace HKb1 := Lib.hid (blk_below HKb1.out hb_)
 replace HRb1 := Lib.hid (HRb1.out.below hb_)
 replace HKb3 := Lib.hid (blk_below HKb3.out hb_)
 replace HRb3 := Lib.hid (HRb3.out.below hb_)
 replace HC5 := Lib.hid (Kd.C_below HC5.out hb_)
 replace HC7 := Lib.hid (Kd.C_below HC7.out hb_)
 replace HC9 := Lib.hid (Kd.C_below HC9.out hb_)
 replace HKb13 := Lib.hid (blk_below HKb13.out hb_)
 replace HRb13 := Lib.hid (HRb13.out.below hb_)
 replace HC15 := Lib.hid (Kd.C_below HC15.out hb_)
 replace HBW := Lib.hid (below_then HBW.out HBW.out.size hb_)
 clear hb_ hba HL
 go_wp2_with fail
 refine (num17_is 0 y3).mono ?_
 rintro e _ ⟨rfl, rfl⟩
 go_wp2_with fail
 refine (item_call 5 9 1 y3).mono ?_
 rintro e y4 ⟨rfl, hb_⟩
 replace HKb1 := Lib.hid (blk_below HKb1.out hb_)
 replace HRb1 := Lib.hid (HRb1.out.below hb_)
 replace HKb3 := Lib.hid (blk_below HKb3.out hb_)
 replace HRb3 := Lib.hid (HRb3.out.below hb_)
 replace HC5 := Lib.hid (Kd.C_below HC5.out hb_)
 replace HC7 := Lib.hid (Kd.C_below HC7.out hb_)
 replace HC9 := Lib.hid (Kd.C_below HC9.out hb_)
 replace HKb13 := Lib.hid (blk_below HKb13.out hb_)
 replace HRb13 := Lib.hid (HRb13.out.below hb_)
 replace HC15 := Lib.hid (Kd.C_below HC15.out hb_)
 replace HBW := Lib.hid (below_then HBW.out HBW.out.size hb_)
 clear hb_
 go_wp2_with fail
 have HL := Lib.hid (lit1 5 9 1 y4)
 have hba := below_alloc (Below.refl y4.heap.size y4) (.cells #[.int .i64 5, .int .i64 9, .int .i64 1] 50)
 refine (same_call HD7.out (Kd.C_below HC7.out hba) (by decide) HL.out (by decide +kernel)).mono ?_
 rintro e y5 ⟨rfl, hb_⟩
 replace hb_ := below_then hba hba.size hb_
 replace HKb1 := Lib.hid (blk_below HKb1.out hb_)
 replace HRb1 := Lib.hid (HRb1.out.below hb_)
 replace HKb3 := Lib.hid (blk_below HKb3.out hb_)
 replace HRb3 := Lib.hid (HRb3.out.below hb_)
 replace HC5 := Lib.hid (Kd.C_below HC5.out hb_)
 replace HC7 := Lib.hid (Kd.C_below HC7.out hb_)
 replace HC9 := Lib.hid (Kd.C_below HC9.out hb_)
 replace HKb13 := Lib.hid (blk_below HKb13.out hb_)
 replace HRb13 := Lib.hid (HRb13.out.below hb_)
 replace HC15 := Lib.hid (Kd.C_below HC15.out hb_)
 replace HBW := Lib.hid (below_then HBW.out HBW.out.size hb_)
 clear hb_ hba HL
 go_wp2_with fail
 refine (num17_is 0 y5).mono ?_
 rintro e _ ⟨rfl, rfl⟩
 go_wp2_with fail
 have HL := Lib.hid (lit3 2 5 6 y5)
 have hba := below_alloc (Below.refl y5.heap.size y5) (.cells #[.int .i64 2, .int .i64 5, .int .i64 6] 3)
 refine (same_ints HD9.out (Kd.C_below HC9.out hba) (by decide) HL.out (by decide +kernel)).mono ?_
 rintro e y6 ⟨rfl, hb_⟩
 replace hb_ := below_then hba hba.size hb_
 replace HKb1 := Lib.hid (blk_below HKb1.out hb_)
 replace HRb1 := Lib.hid (HRb1.out.below hb_)
 replace HKb3 := Lib.hid (blk_below HKb3.out hb_)
 replace HRb3 := Lib.hid (HRb3.out.below hb_)
 replace HC5 := Lib.hid (Kd.C_below HC5.out hb_)
 replace HC7 := Lib.hid (Kd.C_below HC7.out hb_)
 replace HC9 := Lib.hid (Kd.C_below HC9.out hb_)
 replace HKb13 := Lib.hid (blk_below HKb13.out hb_)
 replace HRb13 := Lib.hid (HRb13.out.below hb_)
 replace HC15 := Lib.hid (Kd.C_below HC15.out hb_)
 replace HBW := Lib.hid (below_then HBW.out HBW.out.size hb_)
 clear hb_ hba HL
 go_wp2_with fail
 refine (num17_is 0 y6).mono ?_
 rintro e _ ⟨rfl, rfl⟩
 go_wp2_with fail
 refine (num17_is 1701 y6).mono ?_
 rintro e _ ⟨rfl, rfl⟩
 go_wp2_with fail
 refine (num17_is 0 y6).mono ?_
 rintro e _ ⟨rfl, rfl⟩
 go_wp2_with fail
 refine (item_call 2 6 2 y6).mono ?_
 rintro e y7 ⟨rfl, hb_⟩
 replace HKb1 := Lib.hid (blk_below HKb1.out hb_)
 replace HRb1 := Lib.hid (HRb1.out.below hb_)
 replace HKb3 := Lib.hid (blk_below HKb3.out hb_)
 replace HRb3 := Lib.hid (HRb3.out.below hb_)
 replace HC5 := Lib.hid (Kd.C_below HC5.out hb_)
 replace HC7 := Lib.hid (Kd.C_below HC7.out hb_)
 replace HC9 := Lib.hid (Kd.C_below HC9.out hb_)
 replace HKb13 := Lib.hid (blk_below HKb13.out hb_)
 replace HRb13 := Lib.hid (HRb13.out.below hb_)
 replace HC15 := Lib.hid (Kd.C_below HC15.out hb_)
 replace HBW := Lib.hid (below_then HBW.out HBW.out.size hb_)
 clear hb_
 go_wp2_with fail
 have HL := Lib.hid (lit1 2 6 2 y7)
 have hba := below_alloc (Below.refl y7.heap.size y7) (.cells #[.int .i64 2, .int .i64 6, .int .i64 2] 50)
 refine (same_call HD15.out (Kd.C_below HC15.out hba) (by decide) HL.out (by decide +kernel)).mono ?_
 rintro e y8 ⟨rfl, hb_⟩
 replace hb_ := below_then hba hba.size hb_
 replace HKb1 := Lib.hid (blk_below HKb1.out hb_)
 replace HRb1 := Lib.hid (HRb1.out.below hb_)
 replace HKb3 := Lib.hid (blk_below HKb3.out hb_)
 replace HRb3 := Lib.hid (HRb3.out.below hb_)
 replace HC5 := Lib.hid (Kd.C_below HC5.out hb_)
 replace HC7 := Lib.hid (Kd.C_below HC7.out hb_)
 replace HC9 := Lib.hid (Kd.C_below HC9.out hb_)
 replace HKb13 := Lib.hid (blk_below HKb13.out hb_)
 replace HRb13 := Lib.hid (HRb13.out.below hb_)
 replace HC15 := Lib.hid (Kd.C_below HC15.out hb_)
 replace HBW := Lib.hid (below_then HBW.out HBW.out.size hb_)
 clear hb_ hba HL
 go_wp2_with fail
 refine (num17_is 0 y8).mono ?_
 rintro e _ ⟨rfl, rfl⟩
 go_wp2_with fail
 refine (num17_is 1702 y8).mono ?_
 rintro e _ ⟨rfl, rfl⟩
 have HNT : Hid (TbR y8 none 0 none 0 [] []) := Lib.hid ⟨Kd.R_nil _ _ _ _ _, Kd.R_nil _ _ _ _ _⟩
 go_wp2_with fail
 refine (may_call HNT.out HE11.out).mono ?_
 rintro e yz ⟨rfl, hb_⟩
 replace HBW := Lib.hid (below_then HBW.out HBW.out.size hb_)
 go_wp2
 exact bodyPost_ret (v := .bool true) (by simp [results, Try.results18, go_sem]) rfl ⟨rfl, HBW.out⟩
end Go.Proofs.Ytgkjpffbgnljeaa.Man
/- tollbarlaw17.awake in the printed form: its answers, plain. -/
set_option linter.unusedVariables false
set_option linter.unusedSimpArgs false
namespace Go.Proofs.Ytgkjpffbgnljeaa.Man
open Go.RowKit Go.Proofs.Ytgkjpffbgnljeaa.QT Go.Proofs.Ytgkjpffbgnljeaa.TreeM Go.Proofs.YtgkjpffbgnljeaaW.PrintWords Go.Proofs.YtgkjpffbgnljeaaW.PrintLast Go.Proofs.YtgkjpffbgnljeaaW.PrintMore
theorem insf_of {ns : List Nd} {root : Int} {fr : List Int} {a b c : Int} {n' : List Nd} {r' : Int} {f' : List Int} {er : Int} (hl : fr.length ≤ 32) (h : insF ns root fr ⟨a, b, c⟩ = ((n', r', f'), er)) : tree_Insert.f ns root fr a b c = some (n', r', f', er) := by
 unfold tree_Insert.f; rw [if_pos (by omega), h]
theorem delf_of {ns : List Nd} {root : Int} {fr : List Int} {a b c : Int} {n' : List Nd} {r' : Int} {f' : List Int} {er : Int} (hl : fr.length ≤ 32) (h : delF ns root fr ⟨a, b, c⟩ = ((n', r', f'), er)) : tree_Delete.f ns root fr a b c = some (n', r', f', er) := by
 unfold tree_Delete.f; rw [if_pos (by omega), h]
theorem itemsf_of {ns : List Nd} {root : Int} {fr : List Int} {t : T} (h : IsT (cellN ns) ns.length root fr t) : tree_Items.f ns root fr = some ((items t).map toI, 0) := by
 unfold tree_Items.f; rw [if_pos (by have := h.free_le; omega), itemsF_yes h]
theorem mayf_of {ns : List Nd} {root : Int} {fr : List Int} {t : T} (h : IsT (cellN ns) ns.length root fr t) : tree_May.f ns root fr = some true := by
 unfold tree_May.f; rw [if_pos (by have := h.free_le; omega), mayT_true.2 ⟨t, h⟩]
theorem meetsf_of {ns : List Nd} {root : Int} {fr : List Int} {s0 s1 : Int} {t : T} (h : IsT (cellN ns) ns.length root fr t) (hs : mayF s0 s1 = true) : tree_Meets.f ns root fr s0 s1 = some ((meetsT s0 s1 t).map toI, 0) := by
 unfold tree_Meets.f; rw [if_pos (by have := h.free_le; omega), meetsF_yes h hs]
theorem pointsf_of {ns : List Nd} {root : Int} {fr : List Int} {s0 s1 : Int} {t : T} (h : IsT (cellN ns) ns.length root fr t) (hs : mayF s0 s1 = true) : tree_Points.f ns root fr s0 s1 = some (pointsF1 s0 s1 (meetsT s0 s1 t), 0) := by
 unfold tree_Points.f; rw [if_pos (by have := h.free_le; omega), pointsF_yes h hs]
theorem not_empty (t : T) : ¬ IsT (cellN []) ([] : List Nd).length 0 [] t := by
 intro h
 have hh := h.good.hang
 have hw := h.good.within
 cases t with
 | nil => exact absurd (show (0 : Int) = -1 from hh) (by decide)
 | node p x l r => exact absurd hw.p (Nat.not_lt_zero _)
def tollbarlaw17_awake.f : Option Bool := some true
theorem tollbarlaw17_awake.calls (r : Bool) (w : World) (h : tollbarlaw17_awake.f = some r) : Calls Try.prog 18 #[] w fun e w' => e = .returned (.bool r) ∧ Below w.heap.size w w' := by
 have hr : true = r := by simpa [tollbarlaw17_awake.f] using h
 subst hr
 clear h
 obtain ⟨n1, r1, f1, E1, T1⟩ := ins_step (x := ⟨5, 9, 1⟩) isT_new (by decide) (by decide) (by decide)
 have i1 : items (put .nil ⟨5, 9, 1⟩ (placeOf ([] : List Nd).length [])) = [⟨5, 9, 1⟩] := rfl
 generalize put .nil ⟨5, 9, 1⟩ (placeOf ([] : List Nd).length []) = t1 at T1 i1
 obtain ⟨n2, r2, f2, E2, T2⟩ := ins_step (x := ⟨2, 6, 2⟩) T1 (by decide) (by rw [i1]; decide) (by rw [i1]; decide)
 have i2 : items (put t1 ⟨2, 6, 2⟩ (placeOf n1.length f1)) = [⟨2, 6, 2⟩, ⟨5, 9, 1⟩] := by
  rw [ins_items T1.row, i1]
  rfl
 generalize put t1 ⟨2, 6, 2⟩ (placeOf n1.length f1) = t2 at T2 i2
 obtain ⟨n3, r3, f3, E7, T3⟩ := del_step (x := ⟨5, 9, 1⟩) T2 (by rw [i2]; decide)
 have i3 : items (TreeM.drop t2 ⟨5, 9, 1⟩) = [⟨2, 6, 2⟩] := by
  rw [items_drop _ _ T2.row (by rw [i2]; decide), i2]
  rfl
 generalize TreeM.drop t2 ⟨5, 9, 1⟩ = t3 at T3 i3
 have m2 : (meetsT 7 8 t2).map toI = [⟨⟨5, 9⟩, 1⟩] := by unfold meetsT; rw [i2]; rfl
 have p2 : pointsF1 0 9 (meetsT 0 9 t2) = [2, 5, 6] := by
  unfold meetsT
  rw [i2, show List.filter (meetF 0 9) [(⟨2, 6, 2⟩ : Itm), ⟨5, 9, 1⟩] = [⟨2, 6, 2⟩, ⟨5, 9, 1⟩] from rfl]
  have e : ptsOf 0 9 [(⟨2, 6, 2⟩ : Itm), ⟨5, 9, 1⟩] = [2, 6, 5] := rfl
  unfold pointsF1
  rw [e]
  have e2 : sortF [2, 6, 5] = [2, 5, 6] := by simp [sortF, List.mergeSort, List.MergeSort.Internal.splitInTwo]
  rw [e2]
  rfl
 have fl1 := T1.free_le
 have fl2 := T2.free_le
 have fl3 := T3.free_le
 exact awake17 n1 n2 n3 r1 r2 r3 f1 f2 f3 (insf_of (by decide) E1) (insf_of fl1 E2) (by rw [itemsf_of T2, i2]; rfl) (by rw [meetsf_of T2 (by decide), m2]) (by rw [pointsf_of T2 (by decide), p2])
  (insf_of fl2 (insF_there T2 (by decide) (by rw [i2]; decide))) (delf_of fl2 E7) (by rw [itemsf_of T3, i3]; rfl) (delf_of fl3 (delF_none T3 (by rw [i3]; decide))) (mayf_of T2)
  (by unfold tree_May.f; rw [if_pos (by decide), mayT_false.2 not_empty]) w
end Go.Proofs.Ytgkjpffbgnljeaa.Man
/- How arguments read as data: each kind of value that the form's reader meets is read as a list, a number, a struct of them; with its bounds, and with its bulk. -/
set_option linter.unusedVariables false
namespace Go.Proofs.Ytgkjpffbgnljeaa.Op
open Go.RowKit Go.Proofs.YtgkjpffbgnljeaaW.PrintWords Go.Proofs.YtgkjpffbgnljeaaW.PrintLast Go.Proofs.YtgkjpffbgnljeaaW.PrintMore
def Opens (P : Program) (t : TypeId) {α : Type} (d : Kd α) (I : α → Prop) (B : α → Nat) : Prop :=
 ∀ {H : Type} (enc : TypeId × Value → H) (w : World) (fuel : Nat) (cs : List Value) (x : DataW H × List MemPlace),
  DataW.trod enc P w 0 (fun _ => true) true fuel t cs = some x → (∀ n ∈ x.1.weights P t, n ≤ reachBytes) →
  ∃ a : α, d.K w a cs ∧ I a ∧ B a ≤ Rows.uptoBulk x.1
theorem opens_int {P : Program} {t : TypeId} {k : IntKind} (ht : P.underlying t = some (.int k)) : Opens P t (Kd.int k) (fun n => (Lit.int k n).wf = true) (fun _ => 1) := by
 intro H enc w fuel cs x h _
 obtain ⟨n, rfl, rfl, hw⟩ := DataW.trod_int ht h
 exact ⟨n, rfl, hw, by simp [Rows.uptoBulk]⟩
theorem weights_all {H : Type} {P : Program} {e : TypeId} {l : List (DataW H)} {d : DataW H} (hd : d ∈ l) : ∀ n ∈ d.weights P e, n ∈ DataW.weightsAll P e l := by
 intro n hn
 induction l with
 | nil => cases hd
 | cons x r ih =>
  simp only [DataW.weightsAll, List.mem_append]
  rcases List.mem_cons.1 hd with rfl | h
  ·exact .inl hn
  ·exact .inr (ih h)
theorem opens_elems {H : Type} {enc : TypeId × Value → H} {P : Program} {w : World} {e : TypeId} {α : Type} {d : Kd α} {I : α → Prop} {B : α → Nat} (he : Opens P e d I B) (hc : P.cellsOf e = d.sz) (ad : Addr) (n : Nat) :
  ∀ (elems : List (DataW H × List MemPlace)) (o : Nat), (∀ y ∈ elems, ∀ m ∈ y.1.weights P e, m ≤ reachBytes) →
   (∀ i, i < elems.length → (w.cells? 0 (ad.add ((o + i) * P.cellsOf e)) (P.cellsOf e)).bind (DataW.trod enc P w 0 (fun _ => true) true n e) = elems[i]?) →
   ∃ xs : List α, xs.length = elems.length ∧ (∀ x ∈ xs, I x) ∧ (xs.map B).sum ≤ Rows.uptoBulkAll (elems.map (·.1)) ∧
    ∀ j p, xs[j]? = some p → ∃ c, c.length = d.sz ∧ d.K w p c ∧ ∀ i u, c[i]? = some u → w.cell? (ad.add ((o + j) * d.sz + i)) = some u
 | [], o, _, _ => ⟨[], rfl, by simp, by simp [Rows.uptoBulkAll], by simp⟩
 | y :: r, o, hz, hel => by
  obtain ⟨xs, hl, hI, hB, hx⟩ := opens_elems he hc ad n r (o + 1) (fun z hz' => hz z (List.mem_cons_of_mem _ hz')) (fun i hi => by
   have := hel (i + 1) (by simp; omega)
   rw [show o + (i + 1) = o + 1 + i by omega] at this
   simpa using this)
  have h0 := hel 0 (by simp)
  simp only [Nat.add_zero, List.getElem?_cons_zero, Option.bind_eq_some_iff] at h0
  obtain ⟨c, hcs, ht⟩ := h0
  obtain ⟨_, hcl, hcell⟩ := World.cells?_some hcs
  obtain ⟨a, hK, hIa, hBa⟩ := he enc w n c y ht (hz y (List.mem_cons_self ..))
  refine ⟨a :: xs, by simp [hl], ?_, ?_, ?_⟩
  ·intro x hx
   rcases List.mem_cons.1 hx with rfl | h
   ·exact hIa
   ·exact hI x h
  ·simp only [List.map_cons, List.sum_cons, Rows.uptoBulkAll]
   omega
  ·intro j p hj
   cases j with
   | zero =>
    simp only [List.getElem?_cons_zero, Option.some.injEq] at hj
    subst hj
    refine ⟨c, by rw [hcl, hc], hK, fun i u hu => ?_⟩
    have hi : i < P.cellsOf e := by rw [← hcl]; exact (List.getElem?_eq_some_iff.1 hu).1
    have := hcell i hi
    rw [hu] at this
    rw [← this, Nat.add_zero, hc]
    congr 1
    unfold Addr.add
    by_cases hm : o * d.sz = 0
    ·simp [hm]
    ·by_cases hi0 : i = 0
     ·simp [hm, hi0]
     ·simp [hm, hi0, Nat.add_assoc]
   | succ j =>
    simp only [List.getElem?_cons_succ] at hj
    obtain ⟨c', h1, h2, h3⟩ := hx j p hj
    exact ⟨c', h1, h2, fun i u hu => by rw [show o + (j + 1) = o + 1 + j by omega]; exact h3 i u hu⟩
theorem opens_slice {P : Program} {t e : TypeId} {α : Type} {d : Kd α} {I : α → Prop} {B : α → Nat} (ht : P.underlying t = some (.slice e)) {m : Nat} (hm : P.bytesOf e = m) (he : Opens P e d I B) (hc : P.cellsOf e = d.sz) :
  Opens P t (Kd.slice e d) (fun xs => (∀ x ∈ xs, I x) ∧ xs.length * m ≤ 140737488351232) (fun xs => (xs.map B).sum + 1) := by
 subst hm
 intro H enc w fuel cs x h hz
 rcases DataW.trod_slice ht h with ⟨rfl, rfl⟩ | ⟨ad, len, cap, elems, rest, n, rfl, rfl, rfl, hb, hl, hm, hlen, hel, hsp, hns⟩
 ·refine ⟨[], ⟨none, 0, rfl, by simp, ?_⟩, ⟨by simp, by simp⟩, by simp [Rows.uptoBulk]⟩
  exact Kd.C_nil d w
 ·simp only [DataW.weights, ht] at hz
  obtain ⟨xs, hxl, hI, hB, hx⟩ := opens_elems (enc := enc) (w := w) he hc ad n elems 0 (fun y hy m hm => hz m (by
   refine List.mem_cons_of_mem _ (List.mem_append_left _ (weights_all (List.mem_map.2 ⟨y, hy, rfl⟩) m hm)))) (fun i hi => by rw [Nat.zero_add]; exact hel i (by omega))
  refine ⟨xs, ⟨some ad, cap, by rw [hxl, hlen], by rw [hxl, hlen]; exact hl, rfl, ?_, fun _ => ⟨ad, rfl, fun j p hj => ?_⟩⟩, ⟨hI, ?_⟩, ?_⟩
  ·rw [hxl, hlen]; simp only [maxLen] at hm; omega
  ·have := hx j p hj
   rw [Nat.zero_add] at this
   exact this
  ·have := hz _ (List.mem_cons_self ..)
   simp only [List.length_map, reachBytes] at this
   have h2 : xs.length * P.bytesOf e ≤ (elems.length + rest.length) * P.bytesOf e := Nat.mul_le_mul_right _ (by omega)
   omega
  ·simp only [Rows.uptoBulk]
   omega
def OpensF (P : Program) (fs : List Field) (off : Nat) {α : Type} (d : Kd α) (I : α → Prop) (B : α → Nat) : Prop :=
 ∀ {H : Type} (enc : TypeId × Value → H) (w : World) (n : Nat) (cs : List Value) (xs : List (DataW H × List MemPlace)), cs.length = off + d.sz → xs.length = fs.length →
  (∀ (i : Nat) (f : Field), fs[i]? = some f → DataW.trod enc P w 0 (fun _ => true) true n f.type ((cs.drop f.offset).take (P.cellsOf f.type)) = xs[i]?) →
  (∀ m ∈ DataW.weightsEach P (fs.map (·.type)) (xs.map (·.1)), m ≤ reachBytes) →
  ∃ a : α, d.K w a (cs.drop off) ∧ I a ∧ B a ≤ Rows.uptoBulkAll (xs.map (·.1))
theorem opens_last {P : Program} {f : Field} {off : Nat} {α : Type} {d : Kd α} {I : α → Prop} {B : α → Nat} (ho : f.offset = off) (hc : P.cellsOf f.type = d.sz) (h : Opens P f.type d I B) : OpensF P [f] off d I B := by
 intro H enc w n cs xs hcs hxs ht hz
 obtain ⟨x, rfl⟩ : ∃ x, xs = [x] := by
  match xs, hxs with
  | [x], _ => exact ⟨x, rfl⟩
 have h0 := ht 0 f rfl
 rw [ho, hc, List.take_of_length_le (by rw [List.length_drop]; omega)] at h0
 obtain ⟨a, hK, hI, hB⟩ := h enc w n _ x h0 (fun m hm => hz m (by simp [DataW.weightsEach, hm]))
 exact ⟨a, hK, hI, by simpa [Rows.uptoBulkAll] using hB⟩
theorem opens_cons {P : Program} {f : Field} {fs : List Field} {off : Nat} {α β : Type} {d : Kd α} {d' : Kd β} {I : α → Prop} {I' : β → Prop} {B : α → Nat} {B' : β → Nat} (ho : f.offset = off) (hc : P.cellsOf f.type = d.sz) (h : Opens P f.type d I B)
  (h' : OpensF P fs (off + d.sz) d' I' B') : OpensF P (f :: fs) off (Kd.pair d d') (fun p => I p.1 ∧ I' p.2) (fun p => B p.1 + B' p.2) := by
 intro H enc w n cs xs hcs hxs ht hz
 obtain ⟨x, r, rfl⟩ : ∃ x r, xs = x :: r := by
  match xs, hxs with
  | x :: r, _ => exact ⟨x, r, rfl⟩
 have hcs' : cs.length = off + (d.sz + d'.sz) := hcs
 have h0 := ht 0 f rfl
 rw [ho, hc] at h0
 obtain ⟨a, hK, hI, hB⟩ := h enc w n _ x h0 (fun m hm => hz m (by simp [DataW.weightsEach, hm]))
 obtain ⟨b, hK', hI', hB'⟩ := h' enc w n cs r (by omega) (by simpa using hxs) (fun i g hg => by have := ht (i + 1) g (by simpa using hg); simpa using this) (fun m hm => hz m (by simp [DataW.weightsEach, hm]))
 refine ⟨(a, b), ⟨(cs.drop off).take d.sz, cs.drop (off + d.sz), ?_, hK, hK'⟩, ⟨hI, hI'⟩, ?_⟩
 ·rw [← List.drop_drop, List.take_append_drop]
 ·simp only [List.map_cons, Rows.uptoBulkAll]
  omega
theorem opens_struct {P : Program} {t : TypeId} {fs : Array Field} {α β : Type} {d : Kd α} {I : α → Prop} {B : α → Nat} (ht : P.underlying t = some (.struct fs)) (hc : P.cellsOf t = d.sz) (f : β → α) (g : α → β) (hfg : ∀ a, f (g a) = a)
  (h : OpensF P fs.toList 0 d I B) : Opens P t (Kd.iso d f) (fun s => I (f s)) (fun s => B (f s) + 1) := by
 intro H enc w fuel cs x hx hz
 obtain ⟨xs, n, rfl, rfl, hcl, hxl, hel⟩ := DataW.trod_struct ht hx
 obtain ⟨a, hK, hI, hB⟩ := h enc w n cs xs (by rw [hcl, hc]; omega) (by simpa using hxl) (fun i q hq => hel i q (by simpa using hq)) (by simpa [DataW.weights, ht] using hz)
 refine ⟨g a, ?_, ?_, ?_⟩
 ·show d.K w (f (g a)) cs
  rw [hfg]
  simpa using hK
 ·show I (f (g a))
  rw [hfg]
  exact hI
 ·show B (f (g a)) + 1 ≤ _
  rw [hfg]
  simp only [Rows.uptoBulk]
  omega
theorem arg_open {P : Program} {t : TypeId} {α : Type} {d : Kd α} {I : α → Prop} {B : α → Nat} (h : Opens P t d I B) {H : Type} {enc : TypeId × Value → H} {w : World} {v : Value} {x : DataW H} {p : List MemPlace} (ht : DataW.Trod enc P w 0 (fun _ => true) true t v x p)
  (hz : ∀ n ∈ x.weights P t, n ≤ reachBytes) : ∃ a : α, d.K w a v.cells.toList ∧ I a ∧ B a ≤ Rows.uptoBulk x := by
 obtain ⟨fuel, hf⟩ := ht
 exact h enc w fuel _ _ hf hz
theorem arg_weights {H : Type} {P : Program} {ts : List TypeId} {ds : List (DataW H)} (h : (DataW.weightsEach P ts ds).all (· ≤ reachBytes) = true) (j : Nat) {t : TypeId} {d : DataW H} (ht : ts[j]? = some t) (hd : ds[j]? = some d) : ∀ n ∈ d.weights P t, n ≤ reachBytes := by
 intro n hn
 have := List.all_eq_true.1 h n (DataW.weights_mem_each ht hd n hn)
 simpa using this
theorem arg_slice {α : Type} {d : Kd α} {e : Nat} {w : World} {xs : List α} {A : Option Addr} {n c : Nat} (h : (Kd.slice e d).K w xs (Value.slice A n c).cells.toList) : n = xs.length ∧ xs.length ≤ c ∧ d.C w A xs.length xs := by
 obtain ⟨A', c', he, hl, hC⟩ := h
 simp [Value.cells] at he
 obtain ⟨rfl, rfl, rfl⟩ := he
 exact ⟨rfl, hl, hC⟩
end Go.Proofs.Ytgkjpffbgnljeaa.Op
