/- Texts of this claim laid together: TreeZe. -/
import Derived.Test.YtgkjpffbgnljeaaCba
/- tollbarlaw17.awake answers true (printed by gen_treeZe.py). -/
set_option linter.unusedVariables false
set_option linter.unusedSimpArgs false
namespace Go.Proofs.Ytgkjpffbgnljeaa.Man
open Go.RowKit Go.Proofs.Ytgkjpffbgnljeaa.QT Go.Proofs.Ytgkjpffbgnljeaa.QA Go.Proofs.Ytgkjpffbgnljeaa.TreeM Go.Proofs.YtgkjpffbgnljeaaW.PrintWords Go.Proofs.YtgkjpffbgnljeaaW.PrintLast Go.Proofs.YtgkjpffbgnljeaaW.PrintMore
def TbR (W : World) (A : Option Addr) (c : Nat) (F : Option Addr) (cf : Nat) (ns : List Nd) (fr : List Int) : Prop := Kd.R k64 64 W 0 (fun _ => True) (.slice A ns.length c) ns ∧ Kd.R (Kd.int .i64) 3 W 0 (fun _ => True) (.slice F fr.length cf) fr
theorem TbR.below {W W' : World} {A : Option Addr} {c : Nat} {F : Option Addr} {cf : Nat} {ns : List Nd} {fr : List Int} (h : TbR W A c F cf ns fr) (hb : Below W.heap.size W W') : TbR W' A c F cf ns fr := ⟨Kd.R_below h.1 hb, Kd.R_below h.2 hb⟩
theorem TbR.belowN {W W' : World} {A : Option Addr} {c : Nat} {F : Option Addr} {cf : Nat} {ns : List Nd} {fr : List Int} (h : TbR W A c F cf ns fr) (hb : Below W.heap.size W W') (o : Obj) : TbR (W'.alloc o) A c F cf ns fr := ⟨Kd.R_alloc (Kd.R_below h.1 hb) o, Kd.R_alloc (Kd.R_below h.2 hb) o⟩
theorem TbR.alloc {W : World} {A : Option Addr} {c : Nat} {F : Option Addr} {cf : Nat} {ns : List Nd} {fr : List Int} (h : TbR W A c F cf ns fr) (o : Obj) : TbR (W.alloc o) A c F cf ns fr := ⟨Kd.R_alloc h.1 o, Kd.R_alloc h.2 o⟩
theorem TbR.set {W : World} {A : Option Addr} {c : Nat} {F : Option Addr} {cf : Nat} {ns : List Nd} {fr : List Int} {b : Nat} {cs : Array Value} (h : TbR W A c F cf ns fr) (hb : W.heap[b]? = some (.cells cs 25 (0, 0))) (j : Nat) (u : Value) : TbR (W.setCell ⟨b, j, none⟩ u) A c F cf ns fr :=
 ⟨Kd.R_set h.1 hb (by intro t ht; simp [k64, k50, k27, Kd.iso, Kd.pair, Kd.int, Kd.scalar] at ht; subst ht; decide) j u, Kd.R_set h.2 hb (by intro t ht; simp [Kd.int, Kd.scalar] at ht; subst ht; decide) j u⟩
theorem TbR.C {W : World} {A : Option Addr} {c : Nat} {F : Option Addr} {cf : Nat} {ns : List Nd} {fr : List Int} (h : TbR W A c F cf ns fr) : Kd.C k64 W A ns.length ns ∧ ns.length ≤ c ∧ Kd.C (Kd.int .i64) W F fr.length fr ∧ fr.length ≤ cf := by
 obtain ⟨A1, c1, e1, h1, hC1⟩ := Kd.R_reads h.1
 obtain ⟨A2, c2, e2, h2, hC2⟩ := Kd.R_reads h.2
 injection e1 with a1 a2 a3
 injection e2 with b1 b2 b3
 subst a1 a3 b1 b3
 exact ⟨hC1, h1, hC2, h2⟩
theorem TbR.of {W : World} {v0 v2 : Value} {ns : List Nd} {fr : List Int} {b1 b2 : Nat} (h : Kd.R k64 64 W b1 (fun _ => True) v0 ns) (g : Kd.R (Kd.int .i64) 3 W b2 (fun _ => True) v2 fr) : ∃ A c F cf, v0 = .slice A ns.length c ∧ v2 = .slice F fr.length cf ∧ TbR W A c F cf ns fr := by
 obtain ⟨A, c, rfl⟩ := Kd.R_slice h
 obtain ⟨F, cf, rfl⟩ := Kd.R_slice g
 exact ⟨A, c, F, cf, rfl, rfl, Kd.R_lower h (Nat.zero_le _), Kd.R_lower g (Nat.zero_le _)⟩
theorem new_call (w : World) : Calls Try.prog 33 #[] w fun e w' => ∃ A c F cf, e = .returned (.agg #[.slice A 0 c, .int .i64 (-1), .slice F 0 cf]) ∧ TbR w' A c F cf [] [] ∧ Below w.heap.size w w' :=
 (tree_New.calls [] (-1) [] w rfl).mono fun e w' ⟨v0, v2, he, h1, h2, hb⟩ => by
  obtain ⟨A, c, F, cf, rfl, rfl, hT⟩ := TbR.of h1 h2
  exact ⟨A, c, F, cf, he, hT, hb⟩
theorem item_call (a b c : Int) (w : World) : Calls Try.prog 35 #[.int .i64 a, .int .i64 b, .int .i64 c] w fun e w' => e = .returned (.agg #[.int .i64 a, .int .i64 b, .int .i64 c]) ∧ Below w.heap.size w w' := tollbarlaw17_item.calls a b c a b c w rfl
theorem ins_call {A : Option Addr} {c : Nat} {F : Option Addr} {cf : Nat} {ns : List Nd} {root : Int} {fr : List Int} {x1 x2 x3 : Int} {n' : List Nd} {r' : Int} {f' : List Int} {er : Int} {w : World} (hT : TbR w A c F cf ns fr) (E : tree_Insert.f ns root fr x1 x2 x3 = some (n', r', f', er)) :
  Calls Try.prog 26 #[.agg #[.slice A ns.length c, .int .i64 root, .slice F fr.length cf], .agg #[.int .i64 x1, .int .i64 x2, .int .i64 x3]] w fun e w' => ∃ A' c' F' cf', e = .returned (.tuple #[.agg #[.slice A' n'.length c', .int .i64 r', .slice F' f'.length cf'], .int .i64 er]) ∧ TbR w' A' c' F' cf' n' f' ∧ Below w.heap.size w w' :=
 (tree_Insert.calls A c ns root F cf fr x1 x2 x3 n' r' f' er w hT.C.1 hT.C.2.1 hT.C.2.2.1 hT.C.2.2.2 E).mono fun e w' ⟨v0, v2, he, h1, h2, hb⟩ => by
  obtain ⟨A, c, F, cf, rfl, rfl, hT⟩ := TbR.of h1 h2
  exact ⟨A, c, F, cf, he, hT, hb⟩
theorem del_call {A : Option Addr} {c : Nat} {F : Option Addr} {cf : Nat} {ns : List Nd} {root : Int} {fr : List Int} {x1 x2 x3 : Int} {n' : List Nd} {r' : Int} {f' : List Int} {er : Int} {w : World} (hT : TbR w A c F cf ns fr) (E : tree_Delete.f ns root fr x1 x2 x3 = some (n', r', f', er)) :
  Calls Try.prog 30 #[.agg #[.slice A ns.length c, .int .i64 root, .slice F fr.length cf], .agg #[.int .i64 x1, .int .i64 x2, .int .i64 x3]] w fun e w' => ∃ A' c' F' cf', e = .returned (.tuple #[.agg #[.slice A' n'.length c', .int .i64 r', .slice F' f'.length cf'], .int .i64 er]) ∧ TbR w' A' c' F' cf' n' f' ∧ Below w.heap.size w w' :=
 (tree_Delete.calls A c ns root F cf fr x1 x2 x3 n' r' f' er w hT.C.1 hT.C.2.1 hT.C.2.2.1 hT.C.2.2.2 E).mono fun e w' ⟨v0, v2, he, h1, h2, hb⟩ => by
  obtain ⟨A, c, F, cf, rfl, rfl, hT⟩ := TbR.of h1 h2
  exact ⟨A, c, F, cf, he, hT, hb⟩
theorem items_call {A : Option Addr} {c : Nat} {F : Option Addr} {cf : Nat} {ns : List Nd} {root : Int} {fr : List Int} {xs : List It} {er : Int} {w : World} (hT : TbR w A c F cf ns fr) (E : tree_Items.f ns root fr = some (xs, er)) :
  Calls Try.prog 13 #[.agg #[.slice A ns.length c, .int .i64 root, .slice F fr.length cf]] w fun e w' => ∃ B d, e = .returned (.tuple #[.slice B xs.length d, .int .i64 er]) ∧ xs.length ≤ d ∧ Kd.C k50 w' B xs.length xs ∧ Below w.heap.size w w' :=
 (tree_Items.calls A c ns root F cf fr xs er w hT.C.1 hT.C.2.1 hT.C.2.2.1 hT.C.2.2.2 E).mono fun e w' ⟨v0, he, h1, hb⟩ => by
  obtain ⟨B, d, rfl, hd, hC⟩ := Kd.R_reads h1
  exact ⟨B, d, he, hd, hC, hb⟩
theorem meets_call {A : Option Addr} {c : Nat} {F : Option Addr} {cf : Nat} {ns : List Nd} {root : Int} {fr : List Int} {s0 s1 : Int} {xs : List It} {er : Int} {w : World} (hT : TbR w A c F cf ns fr) (E : tree_Meets.f ns root fr s0 s1 = some (xs, er)) :
  Calls Try.prog 14 #[.agg #[.slice A ns.length c, .int .i64 root, .slice F fr.length cf], .agg #[.int .i64 s0, .int .i64 s1]] w fun e w' => ∃ B d, e = .returned (.tuple #[.slice B xs.length d, .int .i64 er]) ∧ xs.length ≤ d ∧ Kd.C k50 w' B xs.length xs ∧ Below w.heap.size w w' :=
 (tree_Meets.calls A c ns root F cf fr s0 s1 xs er w hT.C.1 hT.C.2.1 hT.C.2.2.1 hT.C.2.2.2 E).mono fun e w' ⟨v0, he, h1, hb⟩ => by
  obtain ⟨B, d, rfl, hd, hC⟩ := Kd.R_reads h1
  exact ⟨B, d, he, hd, hC, hb⟩
theorem points_call {A : Option Addr} {c : Nat} {F : Option Addr} {cf : Nat} {ns : List Nd} {root : Int} {fr : List Int} {s0 s1 : Int} {xs : List Int} {er : Int} {w : World} (hT : TbR w A c F cf ns fr) (E : tree_Points.f ns root fr s0 s1 = some (xs, er)) :
  Calls Try.prog 15 #[.agg #[.slice A ns.length c, .int .i64 root, .slice F fr.length cf], .agg #[.int .i64 s0, .int .i64 s1]] w fun e w' => ∃ B d, e = .returned (.tuple #[.slice B xs.length d, .int .i64 er]) ∧ xs.length ≤ d ∧ Kd.C (Kd.int .i64) w' B xs.length xs ∧ Below w.heap.size w w' :=
 (tree_Points.calls A c ns root F cf fr s0 s1 xs er w hT.C.1 hT.C.2.1 hT.C.2.2.1 hT.C.2.2.2 E).mono fun e w' ⟨v0, he, ⟨B, d, hv, hd, hF⟩, hb⟩ => by
  subst hv
  exact ⟨B, d, he, hd, hF w' (fun _ _ _ => rfl), hb⟩
theorem may_call {A : Option Addr} {c : Nat} {F : Option Addr} {cf : Nat} {ns : List Nd} {root : Int} {fr : List Int} {r : Bool} {w : World} (hT : TbR w A c F cf ns fr) (E : tree_May.f ns root fr = some r) :
  Calls Try.prog 16 #[.agg #[.slice A ns.length c, .int .i64 root, .slice F fr.length cf]] w fun e w' => e = .returned (.bool r) ∧ Below w.heap.size w w' :=
 tree_May.calls A c ns root F cf fr r w hT.C.1 hT.C.2.1 hT.C.2.2.1 hT.C.2.2.2 E
theorem num17_is (x : Int) (w : World) : Calls Try.prog 19 #[.int .i64 x] w fun e w' => e = .returned (.int .i64 x) ∧ w = w' := by
 go_enter Try.func19, Try.ntmps19
 go_wp2
 go_ret
 exact ⟨rfl, rfl⟩
theorem same_call {B : Option Addr} {d : Nat} {xs : List It} {w : World} (hd : xs.length ≤ d) (hC : Kd.C k50 w B xs.length xs) {B' : Option Addr} {d' : Nat} {ys : List It} (hd' : ys.length ≤ d') (hC' : Kd.C k50 w B' ys.length ys) (E : tollbarlaw0_SameItems.f 9 xs ys = some true) :
  Calls Try.prog 20 #[.slice B xs.length d, .slice B' ys.length d'] w fun e w' => e = .returned (.bool true) ∧ Below w.heap.size w w' :=
 (tollbarlaw0_SameItems.calls 9 B d xs B' d' ys true w hC hd hC' hd' E).mono fun e w' ⟨he, hb⟩ => ⟨he, hb.below⟩
theorem same_ints {B : Option Addr} {d : Nat} {xs : List Int} {w : World} (hd : xs.length ≤ d) (hC : Kd.C (Kd.int .i64) w B xs.length xs) {B' : Option Addr} {d' : Nat} {ys : List Int} (hd' : ys.length ≤ d') (hC' : Kd.C (Kd.int .i64) w B' ys.length ys) (E : tollbarlaw0_SameInts.f 9 xs ys = some true) :
  Calls Try.prog 24 #[.slice B xs.length d, .slice B' ys.length d'] w fun e w' => e = .returned (.bool true) ∧ Below w.heap.size w w' :=
 (tollbarlaw0_SameInts.calls 9 B d xs B' d' ys true w hC hd hC' hd' E).mono fun e w' ⟨he, hb⟩ => ⟨he, hb.below⟩
theorem lit1 (a b c : Int) (w : World) : Kd.C k50 (w.alloc (.cells #[.int .i64 a, .int .i64 b, .int .i64 c] 50)) (some ⟨w.heap.size, 0, none⟩) 1 [⟨⟨a, b⟩, c⟩] := by
 have h : Kd.R k50 50 (w.alloc (.cells #[.int .i64 a, .int .i64 b, .int .i64 c] 50)) w.heap.size (fun _ => True) (.slice (some ⟨w.heap.size, 0, none⟩) 1 1) [⟨⟨a, b⟩, c⟩] :=
  ⟨fun _ _ => trivial, _, World.ownsRow_lit (base := w.heap.size) (e := 50) (size := 3) w _ 1 (Nat.le_refl _) (by decide) rfl, Reps.snoc (Reps.none _ _) (k50_mkM _ _ _ ⟨⟨a, b⟩, c⟩) rfl⟩
 obtain ⟨A, c, e, _, hC⟩ := Kd.R_reads h
 injection e with e1 e2 e3
 rw [e1]
 exact hC
theorem lit2 (a b c a' b' c' : Int) (w : World) : Kd.C k50 (w.alloc (.cells #[.int .i64 a, .int .i64 b, .int .i64 c, .int .i64 a', .int .i64 b', .int .i64 c'] 50)) (some ⟨w.heap.size, 0, none⟩) 2 [⟨⟨a, b⟩, c⟩, ⟨⟨a', b'⟩, c'⟩] := by
 have h : Kd.R k50 50 (w.alloc (.cells #[.int .i64 a, .int .i64 b, .int .i64 c, .int .i64 a', .int .i64 b', .int .i64 c'] 50)) w.heap.size (fun _ => True) (.slice (some ⟨w.heap.size, 0, none⟩) 2 2) [⟨⟨a, b⟩, c⟩, ⟨⟨a', b'⟩, c'⟩] :=
  ⟨fun _ _ => trivial, _, World.ownsRow_lit (base := w.heap.size) (e := 50) (size := 3) w _ 2 (Nat.le_refl _) (by decide) rfl, Reps.snoc (Reps.snoc (Reps.none _ _) (k50_mkM _ _ _ ⟨⟨a, b⟩, c⟩) rfl) (k50_mkM _ _ _ ⟨⟨a', b'⟩, c'⟩) rfl⟩
 obtain ⟨A, c, e, _, hC⟩ := Kd.R_reads h
 injection e with e1 e2 e3
 rw [e1]
 exact hC
theorem lit3 (x y z : Int) (W : World) : (Kd.int .i64).C (W.alloc (.cells #[.int .i64 x, .int .i64 y, .int .i64 z] 3 (0, 0))) (some ⟨W.heap.size, 0, none⟩) 3 [x, y, z] := by
 refine Kd.C_of_reads (d := 0) ⟨rfl, by decide, fun _ => ⟨_, rfl, fun j hj => ?_⟩⟩
 have hb := blk_new W (.cells #[.int .i64 x, .int .i64 y, .int .i64 z] 3 (0, 0))
 rcases j with _ | _ | _ | j
 ·simp [Addr.add]
 ·simp [Addr.add]
 ·simp [Addr.add]
 ·omega
def treeObj (A : Option Addr) (n c : Nat) (root : Int) (F : Option Addr) (m cf : Nat) : Obj := .cells #[.slice A n c, .int .i64 root, .slice F m cf] 25 (0, 0)
def Gets (W W' : World) (b : Nat) (ns : List Nd) (root : Int) (fr : List Int) : Prop := ∃ A c F cf, W'.heap[b]? = some (treeObj A ns.length c root F fr.length cf) ∧ TbR W' A c F cf ns fr ∧ Below W.heap.size W W'
theorem gets_new {W w' : World} {A : Option Addr} {c : Nat} {F : Option Addr} {cf : Nat} {ns : List Nd} {root : Int} {fr : List Int} (hT : TbR w' A c F cf ns fr) (hB : Below W.heap.size W w') : Gets W (w'.alloc (.cells #[.slice A ns.length c, .int .i64 root, .slice F fr.length cf] 25 (0, 0))) w'.heap.size ns root fr :=
 ⟨A, c, F, cf, blk_new _ _, hT.alloc _, below_alloc hB _⟩
theorem gets_set {W w' : World} {A : Option Addr} {c : Nat} {F : Option Addr} {cf : Nat} {ns : List Nd} {root : Int} {fr : List Int} {b : Nat} {x0 x1 x2 : Value} (hT : TbR w' A c F cf ns fr) (hZ : w'.heap[b]? = some (.cells #[x0, x1, x2] 25 (0, 0))) (hB : Below W.heap.size W w') (hb : W.heap.size ≤ b) :
  Gets W (((w'.setCell ⟨b, 0, none⟩ (.slice A ns.length c)).setCell ⟨b, 1, none⟩ (.int .i64 root)).setCell ⟨b, 2, none⟩ (.slice F fr.length cf)) b ns root fr :=
 ⟨A, c, F, cf, by simpa [treeObj] using blk_set (blk_set (blk_set hZ 0 (.slice A ns.length c)) 1 (.int .i64 root)) 2 (.slice F fr.length cf), ((hT.set hZ 0 _).set (blk_set hZ 0 _) 1 _).set (blk_set (blk_set hZ 0 _) 1 _) 2 _, ((hB.setCell (p := ⟨b, 0, none⟩) hb _).setCell (p := ⟨b, 1, none⟩) hb _).setCell (p := ⟨b, 2, none⟩) hb _⟩
set_option maxHeartbeats 60000000 in
set_option maxRecDepth 100000 in
theorem awake17 (n1 n2 n3 : List Nd) (r1 r2 r3 : Int) (f1 f2 f3 : List Int)
  (E1 : tree_Insert.f [] (-1) [] 5 9 1 = some (n1, r1, f1, 0)) (E2 : tree_Insert.f n1 r1 f1 2 6 2 = some (n2, r2, f2, 0)) (E3 : tree_Items.f n2 r2 f2 = some ([⟨⟨2, 6⟩, 2⟩, ⟨⟨5, 9⟩, 1⟩], 0)) (E4 : tree_Meets.f n2 r2 f2 7 8 = some ([⟨⟨5, 9⟩, 1⟩], 0)) (E5 : tree_Points.f n2 r2 f2 0 9 = some ([2, 5, 6], 0))
  (E6 : tree_Insert.f n2 r2 f2 2 6 2 = some ([], 0, [], 1701)) (E7 : tree_Delete.f n2 r2 f2 5 9 1 = some (n3, r3, f3, 0)) (E8 : tree_Items.f n3 r3 f3 = some ([⟨⟨2, 6⟩, 2⟩], 0)) (E9 : tree_Delete.f n3 r3 f3 5 9 1 = some ([], 0, [], 1702)) (E10 : tree_May.f n2 r2 f2 = some true) (E11 : tree_May.f [] 0 [] = some false) (w : World) :
  Calls Try.prog 18 #[] w fun e w' => e = .returned (.bool true) ∧ Below w.heap.size w w' := by
 have HE1 := Lib.hid E1
 have HE2 := Lib.hid E2
 have HE3 := Lib.hid E3
 have HE4 := Lib.hid E4
 have HE5 := Lib.hid E5
 have HE6 := Lib.hid E6
 have HE7 := Lib.hid E7
 have HE8 := Lib.hid E8
 have HE9 := Lib.hid E9
 have HE10 := Lib.hid E10
 have HE11 := Lib.hid E11
 clear E1 E2 E3 E4 E5 E6 E7 E8 E9 E10 E11
 go_enter Try.func18, Try.ntmps18
 go_wp2_with fail
 refine (new_call w).mono ?_
 rintro e w1 ⟨A0, c0, F0, cf0, rfl, hT1, hb1⟩
 have HT1 := Lib.hid hT1
 have HB1 := Lib.hid hb1
 clear hT1 hb1
 go_wp2_with fail
 refine (item_call 5 9 1 w1).mono ?_
 rintro e w2 ⟨rfl, hb2⟩
 have HT2 := Lib.hid (HT1.out.below hb2)
 have HB2 := Lib.hid (below_then HB1.out HB1.out.size hb2)
 clear hb2 HT1 HB1
 go_wp2_with fail
 refine (ins_call HT2.out HE1.out).mono ?_
 rintro e w3 ⟨A1, c1, F1, cf1, rfl, hT3, hb3⟩
 have HT3 := Lib.hid hT3
 have HB3 := Lib.hid (below_then HB2.out HB2.out.size hb3)
 clear hb3 hT3 HT2 HB2
 go_upto_region 2 with fail
 have HG1 := Lib.hid (gets_new (root := r1) HT3.out HB3.out)
 generalize hWp : w3.alloc (.cells #[.slice A1 n1.length c1, .int .i64 r1, .slice F1 f1.length cf1] 25 (0, 0)) = wp at *
 obtain ⟨b1, hb1⟩ : ∃ b1, w3.heap.size = b1 := ⟨_, rfl⟩
 rw [hb1] at HG1 ⊢
 clear hb1 hWp HT3 HB3
 obtain ⟨A1, c1, F1, cf1, hk_, ht_, hB_⟩ := HG1.out
 have HKb1 := Lib.hid (show wp.heap[b1]? = some (.cells #[.slice A1 n1.length c1, .int .i64 r1, .slice F1 f1.length cf1] 25 (0, 0)) from hk_)
 have HRb1 := Lib.hid ht_
 have HBW := Lib.hid hB_
 clear hk_ ht_ hB_ HG1
 go_upto_region 2 with fail
 go_cut [3, 4] (fun sp se wx => ∃ b_, sp = .pointer (some ⟨b_, 0, none⟩) ∧ se = .int .i64 0 ∧ wp.heap.size ≤ b_ ∧ Gets wp wx b_ n2 r2 f2)
 case first =>
  have d00 := blk_cell (show wp.heap[b1]? = _ from HKb1.out) 0
  have d01 := blk_cell (show wp.heap[b1]? = _ from HKb1.out) 1
  have d02 := blk_cell (show wp.heap[b1]? = _ from HKb1.out) 2
  have d10 := blk_cell (show wp.drew.heap[b1]? = _ from HKb1.out) 0
  have d11 := blk_cell (show wp.drew.heap[b1]? = _ from HKb1.out) 1
  have d12 := blk_cell (show wp.drew.heap[b1]? = _ from HKb1.out) 2
  have d20 := blk_cell (show (wp.alloc (.cells #[.slice none 0 0, .int .i64 0, .slice none 0 0] 25 (0, 0))).heap[b1]? = _ from (blk_alloc HKb1.out (.cells #[.slice none 0 0, .int .i64 0, .slice none 0 0] 25 (0, 0)))) 0
  have d21 := blk_cell (show (wp.alloc (.cells #[.slice none 0 0, .int .i64 0, .slice none 0 0] 25 (0, 0))).heap[b1]? = _ from (blk_alloc HKb1.out (.cells #[.slice none 0 0, .int .i64 0, .slice none 0 0] 25 (0, 0)))) 1
  have d22 := blk_cell (show (wp.alloc (.cells #[.slice none 0 0, .int .i64 0, .slice none 0 0] 25 (0, 0))).heap[b1]? = _ from (blk_alloc HKb1.out (.cells #[.slice none 0 0, .int .i64 0, .slice none 0 0] 25 (0, 0)))) 2
  simp at d00 d01 d02 d10 d11 d12 d20 d21 d22
  have HBD : Hid (Below wp.heap.size wp wp.drew) := Lib.hid (below_drew (Below.refl _ _))
  have HLT : Hid (b1 < wp.heap.size) := Lib.hid (blk_lt HKb1.out)
  go_region_with (first | (go_at_call 35; refine (item_call 2 6 2 _).mono ?_; rintro e w2 ⟨rfl, hb2⟩; (try have HZ : Hid (w2.heap[wp.heap.size]? = some (.cells #[.slice none 0 0, .int .i64 0, .slice none 0 0] 25 (0, 0))) := Lib.hid (by first | exact blk_below (blk_new wp.drew _) hb2 | exact blk_below (show (World.drew (wp.alloc (.cells #[.slice none 0 0, .int .i64 0, .slice none 0 0] 25 (0, 0)))).heap[wp.heap.size]? = _ from blk_new _ _) hb2)); have HB2 : Hid (Below wp.heap.size wp w2) := Lib.hid (by first | exact below_then HBD.out HBD.out.size hb2 | exact below_then (below_alloc HBD.out _) (by simp) hb2 | exact below_then (show Below wp.heap.size wp (World.drew (wp.alloc (.cells #[.slice none 0 0, .int .i64 0, .slice none 0 0] 25 (0, 0)))) from below_drew (below_alloc (Below.refl _ _) _)) (by simp) hb2); have p0 := blk_cell (blk_below HKb1.out HB2.out) 0; have p1 := blk_cell (blk_below HKb1.out HB2.out) 1; have p2 := blk_cell (blk_below HKb1.out HB2.out) 2; have q0 := blk_cell (blk_alloc (blk_below HKb1.out HB2.out) (.cells #[.slice none 0 0, .int .i64 0, .slice none 0 0] 25 (0, 0))) 0; have q1 := blk_cell (blk_alloc (blk_below HKb1.out HB2.out) (.cells #[.slice none 0 0, .int .i64 0, .slice none 0 0] 25 (0, 0))) 1; have q2 := blk_cell (blk_alloc (blk_below HKb1.out HB2.out) (.cells #[.slice none 0 0, .int .i64 0, .slice none 0 0] 25 (0, 0))) 2; simp at p0 p1 p2 q0 q1 q2; clear hb2) | (go_at_call 26; (first | refine (ins_call (HRb1.out.below HB2.out) HE2.out).mono ?_ | refine (ins_call (HRb1.out.belowN HB2.out _) HE2.out).mono ?_); rintro e w3 ⟨A3, c3, F3, cf3, rfl, hT3, hb3⟩; (first | (have HZ3 : Hid (w3.heap[wp.heap.size]? = some (.cells #[.slice none 0 0, .int .i64 0, .slice none 0 0] 25 (0, 0))) := Lib.hid (blk_below HZ.out hb3)) | (have HZ3 : Hid (w3.heap[w2.heap.size]? = some (.cells #[.slice none 0 0, .int .i64 0, .slice none 0 0] 25 (0, 0))) := Lib.hid (blk_below (blk_new w2 _) hb3)) | skip); (try (have f0 := blk_frozen HZ3.out 0; have f1 := blk_frozen HZ3.out 1; have f2 := blk_frozen HZ3.out 2; have g0 := blk_cell HZ3.out 0; have g1 := blk_cell HZ3.out 1; have g2 := blk_cell HZ3.out 2; simp at g0 g1 g2)); have HT3 := Lib.hid hT3; have HB3 : Hid (Below wp.heap.size wp w3) := Lib.hid (by first | exact below_then HB2.out HB2.out.size hb3 | exact below_then (below_alloc HB2.out _) (Nat.le_trans HB2.out.size (by simp)) hb3); clear hb3 hT3))
  all_goals
   go_wp2_with fail
   go_meet
   first
    | exact ⟨_, rfl, rfl, (by first | exact Nat.le_refl _ | exact HB2.out.size), gets_set HT3.out HZ3.out HB3.out (by first | exact Nat.le_refl _ | exact HB2.out.size)⟩
    | exact ⟨_, rfl, rfl, HB3.out.size, gets_new HT3.out HB3.out⟩
 case rest =>
 obtain ⟨b3, rfl, rfl, hs_, hg_⟩ := hcut
 obtain ⟨A3, c3, F3, cf3, hk_, ht_, hB_⟩ := hg_
 replace HKb1 := Lib.hid (blk_below HKb1.out hB_)
 replace HRb1 := Lib.hid (HRb1.out.below hB_)
 have HKb3 := Lib.hid (show wc.heap[b3]? = some (.cells #[.slice A3 n2.length c3, .int .i64 r2, .slice F3 f2.length cf3] 25 (0, 0)) from hk_)
 have HRb3 := Lib.hid ht_
 replace HBW := Lib.hid (below_then HBW.out HBW.out.size hB_)
 clear hk_ ht_ hB_ hs_
 have p0 := blk_cell HKb3.out 0
 have p1 := blk_cell HKb3.out 1
 have p2 := blk_cell HKb3.out 2
 simp at p0 p1 p2
 go_wp2_with fail
 refine (items_call HRb3.out HE3.out).mono ?_
 rintro e w5 ⟨B5, d5, rfl, hd_, hc_, hb_⟩
 replace HKb1 := Lib.hid (blk_below HKb1.out hb_)
 replace HRb1 := Lib.hid (HRb1.out.below hb_)
 replace HKb3 := Lib.hid (blk_below HKb3.out hb_)
 replace HRb3 := Lib.hid (HRb3.out.below hb_)
 replace HBW := Lib.hid (below_then HBW.out HBW.out.size hb_)
 have HD5 := Lib.hid hd_
 have HC5 := Lib.hid hc_
 clear p0 p1 p2 hb_ hd_ hc_
 have p0 := blk_cell HKb3.out 0
 have p1 := blk_cell HKb3.out 1
 have p2 := blk_cell HKb3.out 2
 simp at p0 p1 p2
 go_wp2_with fail
 refine (meets_call HRb3.out HE4.out).mono ?_
 rintro e w7 ⟨B7, d7, rfl, hd_, hc_, hb_⟩
 replace HKb1 := Lib.hid (blk_below HKb1.out hb_)
 replace HRb1 := Lib.hid (HRb1.out.below hb_)
 replace HKb3 := Lib.hid (blk_below HKb3.out hb_)
 replace HRb3 := Lib.hid (HRb3.out.below hb_)
 replace HC5 := Lib.hid (Kd.C_below HC5.out hb_)
 replace HBW := Lib.hid (below_then HBW.out HBW.out.size hb_)
 have HD7 := Lib.hid hd_
 have HC7 := Lib.hid hc_
 clear p0 p1 p2 hb_ hd_ hc_
 have p0 := blk_cell HKb3.out 0
 have p1 := blk_cell HKb3.out 1
 have p2 := blk_cell HKb3.out 2
 simp at p0 p1 p2
 go_wp2_with fail
 refine (points_call HRb3.out HE5.out).mono ?_
 rintro e w9 ⟨B9, d9, rfl, hd_, hc_, hb_⟩
 replace HKb1 := Lib.hid (blk_below HKb1.out hb_)
 replace HRb1 := Lib.hid (HRb1.out.below hb_)
 replace HKb3 := Lib.hid (blk_below HKb3.out hb_)
 replace HRb3 := Lib.hid (HRb3.out.below hb_)
 replace HC5 := Lib.hid (Kd.C_below HC5.out hb_)
 replace HC7 := Lib.hid (Kd.C_below HC7.out hb_)
 replace HBW := Lib.hid (below_then HBW.out HBW.out.size hb_)
 have HD9 := Lib.hid hd_
 have HC9 := Lib.hid hc_
 clear p0 p1 p2 hb_ hd_ hc_
 go_upto_region 6 with fail
 go_cut [11, 12] (fun sp se wx => ∃ b_, sp = .pointer (some ⟨b_, 0, none⟩) ∧ se = .int .i64 1701 ∧ Below w9.heap.size w9 wx)
 case first =>
  have d00 := blk_cell (show w9.heap[b3]? = _ from HKb3.out) 0
  have d01 := blk_cell (show w9.heap[b3]? = _ from HKb3.out) 1
  have d02 := blk_cell (show w9.heap[b3]? = _ from HKb3.out) 2
  have d10 := blk_cell (show w9.drew.heap[b3]? = _ from HKb3.out) 0
  have d11 := blk_cell (show w9.drew.heap[b3]? = _ from HKb3.out) 1
  have d12 := blk_cell (show w9.drew.heap[b3]? = _ from HKb3.out) 2
  have d20 := blk_cell (show (w9.alloc (.cells #[.slice none 0 0, .int .i64 0, .slice none 0 0] 25 (0, 0))).heap[b3]? = _ from (blk_alloc HKb3.out (.cells #[.slice none 0 0, .int .i64 0, .slice none 0 0] 25 (0, 0)))) 0
  have d21 := blk_cell (show (w9.alloc (.cells #[.slice none 0 0, .int .i64 0, .slice none 0 0] 25 (0, 0))).heap[b3]? = _ from (blk_alloc HKb3.out (.cells #[.slice none 0 0, .int .i64 0, .slice none 0 0] 25 (0, 0)))) 1
  have d22 := blk_cell (show (w9.alloc (.cells #[.slice none 0 0, .int .i64 0, .slice none 0 0] 25 (0, 0))).heap[b3]? = _ from (blk_alloc HKb3.out (.cells #[.slice none 0 0, .int .i64 0, .slice none 0 0] 25 (0, 0)))) 2
  simp at d00 d01 d02 d10 d11 d12 d20 d21 d22
  have HBD : Hid (Below w9.heap.size w9 w9.drew) := Lib.hid (below_drew (Below.refl _ _))
  have HLT : Hid (b3 < w9.heap.size) := Lib.hid (blk_lt HKb3.out)
  go_region_with (first | (go_at_call 35; refine (item_call 2 6 2 _).mono ?_; rintro e w2 ⟨rfl, hb2⟩; (try have HZ : Hid (w2.heap[w9.heap.size]? = some (.cells #[.slice none 0 0, .int .i64 0, .slice none 0 0] 25 (0, 0))) := Lib.hid (by first | exact blk_below (blk_new w9.drew _) hb2 | exact blk_below (show (World.drew (w9.alloc (.cells #[.slice none 0 0, .int .i64 0, .slice none 0 0] 25 (0, 0)))).heap[w9.heap.size]? = _ from blk_new _ _) hb2)); have HB2 : Hid (Below w9.heap.size w9 w2) := Lib.hid (by first | exact below_then HBD.out HBD.out.size hb2 | exact below_then (below_alloc HBD.out _) (by simp) hb2 | exact below_then (show Below w9.heap.size w9 (World.drew (w9.alloc (.cells #[.slice none 0 0, .int .i64 0, .slice none 0 0] 25 (0, 0)))) from below_drew (below_alloc (Below.refl _ _) _)) (by simp) hb2); have p0 := blk_cell (blk_below HKb3.out HB2.out) 0; have p1 := blk_cell (blk_below HKb3.out HB2.out) 1; have p2 := blk_cell (blk_below HKb3.out HB2.out) 2; have q0 := blk_cell (blk_alloc (blk_below HKb3.out HB2.out) (.cells #[.slice none 0 0, .int .i64 0, .slice none 0 0] 25 (0, 0))) 0; have q1 := blk_cell (blk_alloc (blk_below HKb3.out HB2.out) (.cells #[.slice none 0 0, .int .i64 0, .slice none 0 0] 25 (0, 0))) 1; have q2 := blk_cell (blk_alloc (blk_below HKb3.out HB2.out) (.cells #[.slice none 0 0, .int .i64 0, .slice none 0 0] 25 (0, 0))) 2; simp at p0 p1 p2 q0 q1 q2; clear hb2) | (go_at_call 26; (first | refine (ins_call (HRb3.out.below HB2.out) HE6.out).mono ?_ | refine (ins_call (HRb3.out.belowN HB2.out _) HE6.out).mono ?_); rintro e w3 ⟨A3, c3, F3, cf3, rfl, hT3, hb3⟩; (first | (have HZ3 : Hid (w3.heap[w9.heap.size]? = some (.cells #[.slice none 0 0, .int .i64 0, .slice none 0 0] 25 (0, 0))) := Lib.hid (blk_below HZ.out hb3)) | (have HZ3 : Hid (w3.heap[w2.heap.size]? = some (.cells #[.slice none 0 0, .int .i64 0, .slice none 0 0] 25 (0, 0))) := Lib.hid (blk_below (blk_new w2 _) hb3)) | skip); (try (have f0 := blk_frozen HZ3.out 0; have f1 := blk_frozen HZ3.out 1; have f2 := blk_frozen HZ3.out 2; have g0 := blk_cell HZ3.out 0; have g1 := blk_cell HZ3.out 1; have g2 := blk_cell HZ3.out 2; simp at g0 g1 g2)); have HT3 := Lib.hid hT3; have HB3 : Hid (Below w9.heap.size w9 w3) := Lib.hid (by first | exact below_then HB2.out HB2.out.size hb3 | exact below_then (below_alloc HB2.out _) (Nat.le_trans HB2.out.size (by simp)) hb3); clear hb3 hT3))
  all_goals
   go_wp2_with fail
   go_meet
   first
    | exact (fun _ : _ = _ => ⟨_, rfl, rfl, below_set (below_set (below_set HB3.out (by first | exact Nat.le_refl _ | exact HB2.out.size)) (by first | exact Nat.le_refl _ | exact HB2.out.size)) (by first | exact Nat.le_refl _ | exact HB2.out.size)⟩) HZ3.out
    | exact ⟨_, rfl, rfl, below_alloc HB3.out _⟩
 case rest =>
 obtain ⟨b11, rfl, rfl, hB_⟩ := hcut
 replace HKb1 := Lib.hid (blk_below HKb1.out hB_)
 replace HRb1 := Lib.hid (HRb1.out.below hB_)
 replace HKb3 := Lib.hid (blk_below HKb3.out hB_)
 replace HRb3 := Lib.hid (HRb3.out.below hB_)
 replace HC5 := Lib.hid (Kd.C_below HC5.out hB_)
 replace HC7 := Lib.hid (Kd.C_below HC7.out hB_)
 replace HC9 := Lib.hid (Kd.C_below HC9.out hB_)
 replace HBW := Lib.hid (below_then HBW.out HBW.out.size hB_)
 clear hB_
 generalize wc = w11 at *
 go_upto_region 7 with fail
 go_cut [13, 14] (fun sp se wx => ∃ b_, sp = .pointer (some ⟨b_, 0, none⟩) ∧ se = .int .i64 0 ∧ w11.heap.size ≤ b_ ∧ Gets w11 wx b_ n3 r3 f3)
 case first =>
  have d00 := blk_cell (show w11.heap[b3]? = _ from HKb3.out) 0
  have d01 := blk_cell (show w11.heap[b3]? = _ from HKb3.out) 1
  have d02 := blk_cell (show w11.heap[b3]? = _ from HKb3.out) 2
  have d10 := blk_cell (show w11.drew.heap[b3]? = _ from HKb3.out) 0
  have d11 := blk_cell (show w11.drew.heap[b3]? = _ from HKb3.out) 1
  have d12 := blk_cell (show w11.drew.heap[b3]? = _ from HKb3.out) 2
  have d20 := blk_cell (show (w11.alloc (.cells #[.slice none 0 0, .int .i64 0, .slice none 0 0] 25 (0, 0))).heap[b3]? = _ from (blk_alloc HKb3.out (.cells #[.slice none 0 0, .int .i64 0, .slice none 0 0] 25 (0, 0)))) 0
  have d21 := blk_cell (show (w11.alloc (.cells #[.slice none 0 0, .int .i64 0, .slice none 0 0] 25 (0, 0))).heap[b3]? = _ from (blk_alloc HKb3.out (.cells #[.slice none 0 0, .int .i64 0, .slice none 0 0] 25 (0, 0)))) 1
  have d22 := blk_cell (show (w11.alloc (.cells #[.slice none 0 0, .int .i64 0, .slice none 0 0] 25 (0, 0))).heap[b3]? = _ from (blk_alloc HKb3.out (.cells #[.slice none 0 0, .int .i64 0, .slice none 0 0] 25 (0, 0)))) 2
  simp at d00 d01 d02 d10 d11 d12 d20 d21 d22
  have HBD : Hid (Below w11.heap.size w11 w11.drew) := Lib.hid (below_drew (Below.refl _ _))
  have HLT : Hid (b3 < w11.heap.size) := Lib.hid (blk_lt HKb3.out)
  go_region_with (first | (go_at_call 35; refine (item_call 5 9 1 _).mono ?_; rintro e w2 ⟨rfl, hb2⟩; (try have HZ : Hid (w2.heap[w11.heap.size]? = some (.cells #[.slice none 0 0, .int .i64 0, .slice none 0 0] 25 (0, 0))) := Lib.hid (by first | exact blk_below (blk_new w11.drew _) hb2 | exact blk_below (show (World.drew (w11.alloc (.cells #[.slice none 0 0, .int .i64 0, .slice none 0 0] 25 (0, 0)))).heap[w11.heap.size]? = _ from blk_new _ _) hb2)); have HB2 : Hid (Below w11.heap.size w11 w2) := Lib.hid (by first | exact below_then HBD.out HBD.out.size hb2 | exact below_then (below_alloc HBD.out _) (by simp) hb2 | exact below_then (show Below w11.heap.size w11 (World.drew (w11.alloc (.cells #[.slice none 0 0, .int .i64 0, .slice none 0 0] 25 (0, 0)))) from below_drew (below_alloc (Below.refl _ _) _)) (by simp) hb2); have p0 := blk_cell (blk_below HKb3.out HB2.out) 0; have p1 := blk_cell (blk_below HKb3.out HB2.out) 1; have p2 := blk_cell (blk_below HKb3.out HB2.out) 2; have q0 := blk_cell (blk_alloc (blk_below HKb3.out HB2.out) (.cells #[.slice none 0 0, .int .i64 0, .slice none 0 0] 25 (0, 0))) 0; have q1 := blk_cell (blk_alloc (blk_below HKb3.out HB2.out) (.cells #[.slice none 0 0, .int .i64 0, .slice none 0 0] 25 (0, 0))) 1; have q2 := blk_cell (blk_alloc (blk_below HKb3.out HB2.out) (.cells #[.slice none 0 0, .int .i64 0, .slice none 0 0] 25 (0, 0))) 2; simp at p0 p1 p2 q0 q1 q2; clear hb2) | (go_at_call 30; (first | refine (del_call (HRb3.out.below HB2.out) HE7.out).mono ?_ | refine (del_call (HRb3.out.belowN HB2.out _) HE7.out).mono ?_); rintro e w3 ⟨A3, c3, F3, cf3, rfl, hT3, hb3⟩; (first | (have HZ3 : Hid (w3.heap[w11.heap.size]? = some (.cells #[.slice none 0 0, .int .i64 0, .slice none 0 0] 25 (0, 0))) := Lib.hid (blk_below HZ.out hb3)) | (have HZ3 : Hid (w3.heap[w2.heap.size]? = some (.cells #[.slice none 0 0, .int .i64 0, .slice none 0 0] 25 (0, 0))) := Lib.hid (blk_below (blk_new w2 _) hb3)) | skip); (try (have f0 := blk_frozen HZ3.out 0; have f1 := blk_frozen HZ3.out 1; have f2 := blk_frozen HZ3.out 2; have g0 := blk_cell HZ3.out 0; have g1 := blk_cell HZ3.out 1; have g2 := blk_cell HZ3.out 2; simp at g0 g1 g2)); have HT3 := Lib.hid hT3; have HB3 : Hid (Below w11.heap.size w11 w3) := Lib.hid (by first | exact below_then HB2.out HB2.out.size hb3 | exact below_then (below_alloc HB2.out _) (Nat.le_trans HB2.out.size (by simp)) hb3); clear hb3 hT3))
  all_goals
   go_wp2_with fail
   go_meet
   first
    | exact ⟨_, rfl, rfl, (by first | exact Nat.le_refl _ | exact HB2.out.size), gets_set HT3.out HZ3.out HB3.out (by first | exact Nat.le_refl _ | exact HB2.out.size)⟩
    | exact ⟨_, rfl, rfl, HB3.out.size, gets_new HT3.out HB3.out⟩
 case rest =>
 obtain ⟨b13, rfl, rfl, hs_, hg_⟩ := hcut
 obtain ⟨A13, c13, F13, cf13, hk_, ht_, hB_⟩ := hg_
 replace HKb1 := Lib.hid (blk_below HKb1.out hB_)
 replace HRb1 := Lib.hid (HRb1.out.below hB_)
 replace HKb3 := Lib.hid (blk_below HKb3.out hB_)
 replace HRb3 := Lib.hid (HRb3.out.below hB_)
 replace HC5 := Lib.hid (Kd.C_below HC5.out hB_)
 replace HC7 := Lib.hid (Kd.C_below HC7.out hB_)
 replace HC9 := Lib.hid (Kd.C_below HC9.out hB_)
 have HKb13 := Lib.hid (show wc.heap[b13]? = some (.cells #[.slice A13 n3.length c13, .int .i64 r3, .slice F13 f3.length cf13] 25 (0, 0)) from hk_)
 have HRb13 := Lib.hid ht_
 replace HBW := Lib.hid (below_then HBW.out HBW.out.size hB_)
 clear hk_ ht_ hB_ hs_
 generalize wc = w13 at *
 have p0 := blk_cell HKb13.out 0
 have p1 := blk_cell HKb13.out 1
 have p2 := blk_cell HKb13.out 2
 simp at p0 p1 p2
 go_wp2_with fail
 refine (items_call HRb13.out HE8.out).mono ?_
 rintro e w15 ⟨B15, d15, rfl, hd_, hc_, hb_⟩
 replace HKb1 := Lib.hid (blk_below HKb1.out hb_)
 replace HRb1 := Lib.hid (HRb1.out.below hb_)
 replace HKb3 := Lib.hid (blk_below HKb3.out hb_)
 replace HRb3 := Lib.hid (HRb3.out.below hb_)
 replace HC5 := Lib.hid (Kd.C_below HC5.out hb_)
 replace HC7 := Lib.hid (Kd.C_below HC7.out hb_)
 replace HC9 := Lib.hid (Kd.C_below HC9.out hb_)
 replace HKb13 := Lib.hid (blk_below HKb13.out hb_)
 replace HRb13 := Lib.hid (HRb13.out.below hb_)
 replace HBW := Lib.hid (below_then HBW.out HBW.out.size hb_)
 have HD15 := Lib.hid hd_
 have HC15 := Lib.hid hc_
 clear p0 p1 p2 hb_ hd_ hc_
 go_upto_region 9 with fail
 go_cut [17, 18] (fun sp se wx => ∃ b_, sp = .pointer (some ⟨b_, 0, none⟩) ∧ se = .int .i64 1702 ∧ Below w15.heap.size w15 wx)
 case first =>
  have d00 := blk_cell (show w15.heap[b13]? = _ from HKb13.out) 0
  have d01 := blk_cell (show w15.heap[b13]? = _ from HKb13.out) 1
  have d02 := blk_cell (show w15.heap[b13]? = _ from HKb13.out) 2
  have d10 := blk_cell (show w15.drew.heap[b13]? = _ from HKb13.out) 0
  have d11 := blk_cell (show w15.drew.heap[b13]? = _ from HKb13.out) 1
  have d12 := blk_cell (show w15.drew.heap[b13]? = _ from HKb13.out) 2
  have d20 := blk_cell (show (w15.alloc (.cells #[.slice none 0 0, .int .i64 0, .slice none 0 0] 25 (0, 0))).heap[b13]? = _ from (blk_alloc HKb13.out (.cells #[.slice none 0 0, .int .i64 0, .slice none 0 0] 25 (0, 0)))) 0
  have d21 := blk_cell (show (w15.alloc (.cells #[.slice none 0 0, .int .i64 0, .slice none 0 0] 25 (0, 0))).heap[b13]? = _ from (blk_alloc HKb13.out (.cells #[.slice none 0 0, .int .i64 0, .slice none 0 0] 25 (0, 0)))) 1
  have d22 := blk_cell (show (w15.alloc (.cells #[.slice none 0 0, .int .i64 0, .slice none 0 0] 25 (0, 0))).heap[b13]? = _ from (blk_alloc HKb13.out (.cells #[.slice none 0 0, .int .i64 0, .slice none 0 0] 25 (0, 0)))) 2
  simp at d00 d01 d02 d10 d11 d12 d20 d21 d22
  have HBD : Hid (Below w15.heap.size w15 w15.drew) := Lib.hid (below_drew (Below.refl _ _))
  have HLT : Hid (b13 < w15.heap.size) := Lib.hid (blk_lt HKb13.out)
  go_region_with (first | (go_at_call 35; refine (item_call 5 9 1 _).mono ?_; rintro e w2 ⟨rfl, hb2⟩; (try have HZ : Hid (w2.heap[w15.heap.size]? = some (.cells #[.slice none 0 0, .int .i64 0, .slice none 0 0] 25 (0, 0))) := Lib.hid (by first | exact blk_below (blk_new w15.drew _) hb2 | exact blk_below (show (World.drew (w15.alloc (.cells #[.slice none 0 0, .int .i64 0, .slice none 0 0] 25 (0, 0)))).heap[w15.heap.size]? = _ from blk_new _ _) hb2)); have HB2 : Hid (Below w15.heap.size w15 w2) := Lib.hid (by first | exact below_then HBD.out HBD.out.size hb2 | exact below_then (below_alloc HBD.out _) (by simp) hb2 | exact below_then (show Below w15.heap.size w15 (World.drew (w15.alloc (.cells #[.slice none 0 0, .int .i64 0, .slice none 0 0] 25 (0, 0)))) from below_drew (below_alloc (Below.refl _ _) _)) (by simp) hb2); have p0 := blk_cell (blk_below HKb13.out HB2.out) 0; have p1 := blk_cell (blk_below HKb13.out HB2.out) 1; have p2 := blk_cell (blk_below HKb13.out HB2.out) 2; have q0 := blk_cell (blk_alloc (blk_below HKb13.out HB2.out) (.cells #[.slice none 0 0, .int .i64 0, .slice none 0 0] 25 (0, 0))) 0; have q1 := blk_cell (blk_alloc (blk_below HKb13.out HB2.out) (.cells #[.slice none 0 0, .int .i64 0, .slice none 0 0] 25 (0, 0))) 1; have q2 := blk_cell (blk_alloc (blk_below HKb13.out HB2.out) (.cells #[.slice none 0 0, .int .i64 0, .slice none 0 0] 25 (0, 0))) 2; simp at p0 p1 p2 q0 q1 q2; clear hb2) | (go_at_call 30; (first | refine (del_call (HRb13.out.below HB2.out) HE9.out).mono ?_ | refine (del_call (HRb13.out.belowN HB2.out _) HE9.out).mono ?_); rintro e w3 ⟨A3, c3, F3, cf3, rfl, hT3, hb3⟩; (first | (have HZ3 : Hid (w3.heap[w15.heap.size]? = some (.cells #[.slice none 0 0, .int .i64 0, .slice none 0 0] 25 (0, 0))) := Lib.hid (blk_below HZ.out hb3)) | (have HZ3 : Hid (w3.heap[w2.heap.size]? = some (.cells #[.slice none 0 0, .int .i64 0, .slice none 0 0] 25 (0, 0))) := Lib.hid (blk_below (blk_new w2 _) hb3)) | skip); (try (have f0 := blk_frozen HZ3.out 0; have f1 := blk_frozen HZ3.out 1; have f2 := blk_frozen HZ3.out 2; have g0 := blk_cell HZ3.out 0; have g1 := blk_cell HZ3.out 1; have g2 := blk_cell HZ3.out 2; simp at g0 g1 g2)); have HT3 := Lib.hid hT3; have HB3 : Hid (Below w15.heap.size w15 w3) := Lib.hid (by first | exact below_then HB2.out HB2.out.size hb3 | exact below_then (below_alloc HB2.out _) (Nat.le_trans HB2.out.size (by simp)) hb3); clear hb3 hT3))
  all_goals
   go_wp2_with fail
   go_meet
   first
    | exact (fun _ : _ = _ => ⟨_, rfl, rfl, below_set (below_set (below_set HB3.out (by first | exact Nat.le_refl _ | exact HB2.out.size)) (by first | exact Nat.le_refl _ | exact HB2.out.size)) (by first | exact Nat.le_refl _ | exact HB2.out.size)⟩) HZ3.out
    | exact ⟨_, rfl, rfl, below_alloc HB3.out _⟩
 case rest =>
 obtain ⟨b17, rfl, rfl, hB_⟩ := hcut
 replace HKb1 := Lib.hid (blk_below HKb1.out hB_)
 replace HRb1 := Lib.hid (HRb1.out.below hB_)
 replace HKb3 := Lib.hid (blk_below HKb3.out hB_)
 replace HRb3 := Lib.hid (HRb3.out.below hB_)
 replace HC5 := Lib.hid (Kd.C_below HC5.out hB_)
 replace HC7 := Lib.hid (Kd.C_below HC7.out hB_)
 replace HC9 := Lib.hid (Kd.C_below HC9.out hB_)
 replace HKb13 := Lib.hid (blk_below HKb13.out hB_)
 replace HRb13 := Lib.hid (HRb13.out.below hB_)
 replace HC15 := Lib.hid (Kd.C_below HC15.out hB_)
 replace HBW := Lib.hid (below_then HBW.out HBW.out.size hB_)
 clear hB_
 generalize wc = w17 at *
 have p0 := blk_cell HKb3.out 0
 have p1 := blk_cell HKb3.out 1
 have p2 := blk_cell HKb3.out 2
 simp at p0 p1 p2
 go_wp2_with fail
 refine (num17_is 0 w17).mono ?_
 rintro e _ ⟨rfl, rfl⟩
 go_wp2_with fail
 refine (num17_is 0 w17).mono ?_
 rintro e _ ⟨rfl, rfl⟩
 go_wp2_with fail
 refine (may_call HRb3.out HE10.out).mono ?_
 rintro e y0 ⟨rfl, hb_⟩
 replace HKb1 := Lib.hid (blk_below HKb1.out hb_)
 replace HRb1 := Lib.hid (HRb1.out.below hb_)
 replace HKb3 := Lib.hid (blk_below HKb3.out hb_)
 replace HRb3 := Lib.hid (HRb3.out.below hb_)
 replace HC5 := Lib.hid (Kd.C_below HC5.out hb_)
 replace HC7 := Lib.hid (Kd.C_below HC7.out hb_)
 replace HC9 := Lib.hid (Kd.C_below HC9.out hb_)
 replace HKb13 := Lib.hid (blk_below HKb13.out hb_)
 replace HRb13 := Lib.hid (HRb13.out.below hb_)
 replace HC15 := Lib.hid (Kd.C_below HC15.out hb_)
 replace HBW := Lib.hid (below_then HBW.out HBW.out.size hb_)
 clear hb_ p0 p1 p2
 go_wp2_with fail
 refine (item_call 2 6 2 y0).mono ?_
 rintro e y1 ⟨rfl, hb_⟩
 replace HKb1 := Lib.hid (blk_below HKb1.out hb_)
 replace HRb1 := Lib.hid (HRb1.out.below hb_)
 replace HKb3 := Lib.hid (blk_below HKb3.out hb_)
 replace HRb3 := Lib.hid (HRb3.out.below hb_)
 replace HC5 := Lib.hid (Kd.C_below HC5.out hb_)
 replace HC7 := Lib.hid (Kd.C_below HC7.out hb_)
 replace HC9 := Lib.hid (Kd.C_below HC9.out hb_)
 replace HKb13 := Lib.hid (blk_below HKb13.out hb_)
 replace HRb13 := Lib.hid (HRb13.out.below hb_)
 replace HC15 := Lib.hid (Kd.C_below HC15.out hb_)
 replace HBW := Lib.hid (below_then HBW.out HBW.out.size hb_)
 clear hb_
 go_wp2_with fail
 refine (item_call 5 9 1 y1).mono ?_
 rintro e y2 ⟨rfl, hb_⟩
 replace HKb1 := Lib.hid (blk_below HKb1.out hb_)
 replace HRb1 := Lib.hid (HRb1.out.below hb_)
 replace HKb3 := Lib.hid (blk_below HKb3.out hb_)
 replace HRb3 := Lib.hid (HRb3.out.below hb_)
 replace HC5 := Lib.hid (Kd.C_below HC5.out hb_)
 replace HC7 := Lib.hid (Kd.C_below HC7.out hb_)
 replace HC9 := Lib.hid (Kd.C_below HC9.out hb_)
 replace HKb13 := Lib.hid (blk_below HKb13.out hb_)
 replace HRb13 := Lib.hid (HRb13.out.below hb_)
 replace HC15 := Lib.hid (Kd.C_below HC15.out hb_)
 replace HBW := Lib.hid (below_then HBW.out HBW.out.size hb_)
 clear hb_
 go_wp2_with fail
 have HL := Lib.hid (lit2 2 6 2 5 9 1 y2)
 have hba := below_alloc (Below.refl y2.heap.size y2) (.cells #[.int .i64 2, .int .i64 6, .int .i64 2, .int .i64 5, .int .i64 9, .int .i64 1] 50)
 refine (same_call HD5.out (Kd.C_below HC5.out hba) (by decide) HL.out (by decide +kernel)).mono ?_
 rintro e y3 ⟨rfl, hb_⟩
 replace hb_ := below_then hba hba.size hb_
 replace HKb1 := Lib.hid (blk_below HKb1.out hb_)
 replace HRb1 := Lib.hid (HRb1.out.below hb_)
 replace HKb3 := Lib.hid (blk_below HKb3.out hb_)
 replace HRb3 := Lib.hid (HRb3.out.below hb_)
 replace HC5 := Lib.hid (Kd.C_below HC5.out hb_)
 replace HC7 := Lib.hid (Kd.C_below HC7.out hb_)
 replace HC9 := Lib.hid (Kd.C_below HC9.out hb_)
 replace HKb13 := Lib.hid (blk_below HKb13.out hb_)
 replace HRb13 := Lib.hid (HRb13.out.below hb_)
 replace HC15 := Lib.hid (Kd.C_below HC15.out hb_)
 replace HBW := Lib.hid (below_then HBW.out HBW.out.size hb_)
 clear hb_ hba HL
 go_wp2_with fail
 refine (num17_is 0 y3).mono ?_
 rintro e _ ⟨rfl, rfl⟩
 go_wp2_with fail
 refine (item_call 5 9 1 y3).mono ?_
 rintro e y4 ⟨rfl, hb_⟩
 replace HKb1 := Lib.hid (blk_below HKb1.out hb_)
 replace HRb1 := Lib.hid (HRb1.out.below hb_)
 replace HKb3 := Lib.hid (blk_below HKb3.out hb_)
 replace HRb3 := Lib.hid (HRb3.out.below hb_)
 replace HC5 := Lib.hid (Kd.C_below HC5.out hb_)
 replace HC7 := Lib.hid (Kd.C_below HC7.out hb_)
 replace HC9 := Lib.hid (Kd.C_below HC9.out hb_)
 replace HKb13 := Lib.hid (blk_below HKb13.out hb_)
 replace HRb13 := Lib.hid (HRb13.out.below hb_)
 replace HC15 := Lib.hid (Kd.C_below HC15.out hb_)
 replace HBW := Lib.hid (below_then HBW.out HBW.out.size hb_)
 clear hb_
 go_wp2_with fail
 have HL := Lib.hid (lit1 5 9 1 y4)
 have hba := below_alloc (Below.refl y4.heap.size y4) (.cells #[.int .i64 5, .int .i64 9, .int .i64 1] 50)
 refine (same_call HD7.out (Kd.C_below HC7.out hba) (by decide) HL.out (by decide +kernel)).mono ?_
 rintro e y5 ⟨rfl, hb_⟩
 replace hb_ := below_then hba hba.size hb_
 replace HKb1 := Lib.hid (blk_below HKb1.out hb_)
 replace HRb1 := Lib.hid (HRb1.out.below hb_)
 replace HKb3 := Lib.hid (blk_below HKb3.out hb_)
 replace HRb3 := Lib.hid (HRb3.out.below hb_)
 replace HC5 := Lib.hid (Kd.C_below HC5.out hb_)
 replace HC7 := Lib.hid (Kd.C_below HC7.out hb_)
 replace HC9 := Lib.hid (Kd.C_below HC9.out hb_)
 replace HKb13 := Lib.hid (blk_below HKb13.out hb_)
 replace HRb13 := Lib.hid (HRb13.out.below hb_)
 replace HC15 := Lib.hid (Kd.C_below HC15.out hb_)
 replace HBW := Lib.hid (below_then HBW.out HBW.out.size hb_)
 clear hb_ hba HL
 go_wp2_with fail
 refine (num17_is 0 y5).mono ?_
 rintro e _ ⟨rfl, rfl⟩
 go_wp2_with fail
 have HL := Lib.hid (lit3 2 5 6 y5)
 have hba := below_alloc (Below.refl y5.heap.size y5) (.cells #[.int .i64 2, .int .i64 5, .int .i64 6] 3)
 refine (same_ints HD9.out (Kd.C_below HC9.out hba) (by decide) HL.out (by decide +kernel)).mono ?_
 rintro e y6 ⟨rfl, hb_⟩
 replace hb_ := below_then hba hba.size hb_
 replace HKb1 := Lib.hid (blk_below HKb1.out hb_)
 replace HRb1 := Lib.hid (HRb1.out.below hb_)
 replace HKb3 := Lib.hid (blk_below HKb3.out hb_)
 replace HRb3 := Lib.hid (HRb3.out.below hb_)
 replace HC5 := Lib.hid (Kd.C_below HC5.out hb_)
 replace HC7 := Lib.hid (Kd.C_below HC7.out hb_)
 replace HC9 := Lib.hid (Kd.C_below HC9.out hb_)
 replace HKb13 := Lib.hid (blk_below HKb13.out hb_)
 replace HRb13 := Lib.hid (HRb13.out.below hb_)
 replace HC15 := Lib.hid (Kd.C_below HC15.out hb_)
 replace HBW := Lib.hid (below_then HBW.out HBW.out.size hb_)
 clear hb_ hba HL
 go_wp2_with fail
 refine (num17_is 0 y6).mono ?_
 rintro e _ ⟨rfl, rfl⟩
 go_wp2_with fail
 refine (num17_is 1701 y6).mono ?_
 rintro e _ ⟨rfl, rfl⟩
 go_wp2_with fail
 refine (num17_is 0 y6).mono ?_
 rintro e _ ⟨rfl, rfl⟩
 go_wp2_with fail
 refine (item_call 2 6 2 y6).mono ?_
 rintro e y7 ⟨rfl, hb_⟩
 replace HKb1 := Lib.hid (blk_below HKb1.out hb_)
 replace HRb1 := Lib.hid (HRb1.out.below hb_)
 replace HKb3 := Lib.hid (blk_below HKb3.out hb_)
 replace HRb3 := Lib.hid (HRb3.out.below hb_)
 replace HC5 := Lib.hid (Kd.C_below HC5.out hb_)
 replace HC7 := Lib.hid (Kd.C_below HC7.out hb_)
 replace HC9 := Lib.hid (Kd.C_below HC9.out hb_)
 replace HKb13 := Lib.hid (blk_below HKb13.out hb_)
 replace HRb13 := Lib.hid (HRb13.out.below hb_)
 replace HC15 := Lib.hid (Kd.C_below HC15.out hb_)
 replace HBW := Lib.hid (below_then HBW.out HBW.out.size hb_)
 clear hb_
 go_wp2_with fail
 have HL := Lib.hid (lit1 2 6 2 y7)
 have hba := below_alloc (Below.refl y7.heap.size y7) (.cells #[.int .i64 2, .int .i64 6, .int .i64 2] 50)
 refine (same_call HD15.out (Kd.C_below HC15.out hba) (by decide) HL.out (by decide +kernel)).mono ?_
 rintro e y8 ⟨rfl, hb_⟩
 replace hb_ := below_then hba hba.size hb_
 replace HKb1 := Lib.hid (blk_below HKb1.out hb_)
 replace HRb1 := Lib.hid (HRb1.out.below hb_)
 replace HKb3 := Lib.hid (blk_below HKb3.out hb_)
 replace HRb3 := Lib.hid (HRb3.out.below hb_)
 replace HC5 := Lib.hid (Kd.C_below HC5.out hb_)
 replace HC7 := Lib.hid (Kd.C_below HC7.out hb_)
 replace HC9 := Lib.hid (Kd.C_below HC9.out hb_)
 replace HKb13 := Lib.hid (blk_below HKb13.out hb_)
 replace HRb13 := Lib.hid (HRb13.out.below hb_)
 replace HC15 := Lib.hid (Kd.C_below HC15.out hb_)
 replace HBW := Lib.hid (below_then HBW.out HBW.out.size hb_)
 clear hb_ hba HL
 go_wp2_with fail
 refine (num17_is 0 y8).mono ?_
 rintro e _ ⟨rfl, rfl⟩
 go_wp2_with fail
 refine (num17_is 1702 y8).mono ?_
 rintro e _ ⟨rfl, rfl⟩
 have HNT : Hid (TbR y8 none 0 none 0 [] []) := Lib.hid ⟨Kd.R_nil _ _ _ _ _, Kd.R_nil _ _ _ _ _⟩
 go_wp2_with fail
 refine (may_call HNT.out HE11.out).mono ?_
 rintro e yz ⟨rfl, hb_⟩
 replace HBW := Lib.hid (below_then HBW.out HBW.out.size hb_)
 go_wp2
 exact bodyPost_ret (v := .bool true) (by simp [results, Try.results18, go_sem]) rfl ⟨rfl, HBW.out⟩
end Go.Proofs.Ytgkjpffbgnljeaa.Man
