/- tollbarref22.ReadAsk at this dump: printed by gen_asks.py. -/
import Derived.Test.YtikblicmnfnomaaAskL
import Derived.Test.YtikblicmnfnomaaQK
import Derived.Deep.RegionHeld
set_option linter.unusedVariables false
namespace Go.Proofs.Ytikblicmnfnomaa.Man
open Go.RowKit Go.Proofs.Ytikblicmnfnomaa.QK Go.Proofs.Ytikblicmnfnomaa.WordL Go.Proofs.YtikblicmnfnomaaW.PrintWords Go.Proofs.YtikblicmnfnomaaW.PrintLast Go.Proofs.YtikblicmnfnomaaW.PrintMore

theorem many_1 (w : World) : Calls Try.prog 42 #[.int .i64 1] w fun e w' => e = .returned (.int .i64 6) ∧ w = w' := by
  go_enter Try.func42, Try.ntmps42
  go_wp2
  go_ret
  exact ⟨rfl, rfl⟩
theorem many_2 (w : World) : Calls Try.prog 42 #[.int .i64 2] w fun e w' => e = .returned (.int .i64 5) ∧ w = w' := by
  go_enter Try.func42, Try.ntmps42
  go_wp2
  go_ret
  exact ⟨rfl, rfl⟩
theorem many_3 (w : World) : Calls Try.prog 42 #[.int .i64 3] w fun e w' => e = .returned (.int .i64 2) ∧ w = w' := by
  go_enter Try.func42, Try.ntmps42
  go_wp2
  go_ret
  exact ⟨rfl, rfl⟩
theorem many_4 (w : World) : Calls Try.prog 42 #[.int .i64 4] w fun e w' => e = .returned (.int .i64 2) ∧ w = w' := by
  go_enter Try.func42, Try.ntmps42
  go_wp2
  go_ret
  exact ⟨rfl, rfl⟩
theorem many_5 (w : World) : Calls Try.prog 42 #[.int .i64 5] w fun e w' => e = .returned (.int .i64 3) ∧ w = w' := by
  go_enter Try.func42, Try.ntmps42
  go_wp2
  go_ret
  exact ⟨rfl, rfl⟩
theorem many_6 (w : World) : Calls Try.prog 42 #[.int .i64 6] w fun e w' => e = .returned (.int .i64 2) ∧ w = w' := by
  go_enter Try.func42, Try.ntmps42
  go_wp2
  go_ret
  exact ⟨rfl, rfl⟩
theorem many_none (k : Int) (w : World) (hnil : offsK k = []) : Calls Try.prog 42 #[.int .i64 k] w fun e w' => e = .returned (.int .i64 0) ∧ w = w' := by
  obtain ⟨h1, h2, h3, h4, h5, h6⟩ := offs_nil hnil
  have H1 := beq_eq_false_iff_ne.2 h1
  have H2 := beq_eq_false_iff_ne.2 h2
  have H3 := beq_eq_false_iff_ne.2 h3
  have H4 := beq_eq_false_iff_ne.2 h4
  have H5 := beq_eq_false_iff_ne.2 h5
  have H6 := beq_eq_false_iff_ne.2 h6
  clear h1 h2 h3 h4 h5 h6 hnil
  go_enter Try.func42, Try.ntmps42
  go_wp2
  go_ret
  exact ⟨rfl, rfl⟩
theorem many_any (k : Int) (w : World) : Calls Try.prog 42 #[.int .i64 k] w fun e w' => e = .returned (.int .i64 (if offsK k = [] then 0 else (((offsK k).length + 1 : Nat) : Int))) ∧ w = w' := by
  rcases AskL.offs_cases k with e | ⟨rfl, e⟩ | ⟨rfl, e⟩ | ⟨rfl, e⟩ | ⟨rfl, e⟩ | ⟨rfl, e⟩ | ⟨rfl, e⟩
  · rw [if_pos e]
    exact many_none k w e
  · rw [e, if_neg (by decide)]
    exact many_1 w
  · rw [e, if_neg (by decide)]
    exact many_2 w
  · rw [e, if_neg (by decide)]
    exact many_3 w
  · rw [e, if_neg (by decide)]
    exact many_4 w
  · rw [e, if_neg (by decide)]
    exact many_5 w
  · rw [e, if_neg (by decide)]
    exact many_6 w

set_option maxHeartbeats 4000000 in
set_option maxRecDepth 100000 in
theorem refRead_err (a0 : ByteArray) (n : Nat) (xs : List Int) (x : Int) (w : World) (HL : Hid (tollbarref1_List.f n a0 = some (xs, x))) (hxb : (x == 0) = false) :
    Calls Try.prog 32 #[.string a0] w fun e w' => e = .returned (.tuple #[.agg #[.int .i64 0, .int .i64 0, .int .i64 0, .int .i64 0, .int .i64 0, .int .i64 0, .int .i64 0], .int .i64 2200]) ∧ Below w.heap.size w w' := by
  have hxc : (x != 0) = true := by rw [bne, hxb]; rfl
  go_enter Try.func32, Try.ntmps32
  go_wp2_with fail
  refine (tollbarref1_List.calls n a0 xs x _ HL.out).mono ?_
  rintro e w1 ⟨v, rfl, hR, hb⟩
  have hz : w1.rowIs w.heap.size 46 7 (fun _ => .int .i64 0) := by
    refine row_below ?_ hb (by simp)
    exact World.rowIs_alloc w _ _ _ (fun j hj => by
      match j with
      | 0 | 1 | 2 | 3 | 4 | 5 | 6 => rfl
      | n + 7 => exact absurd (show n + 7 < 7 from hj) (by omega))
  have hs1 : w.heap.size < w1.heap.size := hz.lt
  have hE : Below w.heap.size w w1 := ((Below.refl w.heap.size w).alloc (Nat.le_refl _) _).trans (hb.mono (by simp))
  have c0 := hz.cell (i := 0) (by decide)
  have f0 := hz.frozen 0
  have c1 := hz.cell (i := 1) (by decide)
  have f1 := hz.frozen 1
  have c2 := hz.cell (i := 2) (by decide)
  have f2 := hz.frozen 2
  have c3 := hz.cell (i := 3) (by decide)
  have f3 := hz.frozen 3
  have c4 := hz.cell (i := 4) (by decide)
  have f4 := hz.frozen 4
  have c5 := hz.cell (i := 5) (by decide)
  have f5 := hz.frozen 5
  have c6 := hz.cell (i := 6) (by decide)
  have f6 := hz.frozen 6
  have HZ := Lib.hid hz
  have HE := Lib.hid hE
  clear hb hz hE
  obtain ⟨A, c, rfl, hc, hC⟩ := Kd.R_reads hR
  have hm := Kd.C_max hC
  have HC := Lib.hid hC
  clear hR hC
  go_wp2
  refine bodyPost_ret (results_list (rs := [.cell 2 46, .tmp 3]) rfl (by simp) (.cell w.heap.size 46 _ (0, 0) _ rfl (put7_row HZ.out (.int .i64 0) (.int .i64 0) (.int .i64 0) (.int .i64 0) (.int .i64 0) (.int .i64 0) (.int .i64 0) ) Try.underlying46 rfl (by kernel_rfl) (.tmp .nil))) rfl ?_
  exact ⟨rfl, put7_below HE.out (Nat.le_refl _) _ _ _ _ _ _ _⟩


set_option maxHeartbeats 4000000 in
set_option maxRecDepth 100000 in
theorem refRead_nil (a0 : ByteArray) (n : Nat) (xs : List Int) (w : World) (HL : Hid (tollbarref1_List.f n a0 = some (xs, 0))) (hl0 : xs.length = 0) :
    Calls Try.prog 32 #[.string a0] w fun e w' => e = .returned (.tuple #[.agg #[.int .i64 0, .int .i64 0, .int .i64 0, .int .i64 0, .int .i64 0, .int .i64 0, .int .i64 0], .int .i64 2200]) ∧ Below w.heap.size w w' := by
  go_enter Try.func32, Try.ntmps32
  go_wp2_with fail
  refine (tollbarref1_List.calls n a0 xs 0 _ HL.out).mono ?_
  rintro e w1 ⟨v, rfl, hR, hb⟩
  have hz : w1.rowIs w.heap.size 46 7 (fun _ => .int .i64 0) := by
    refine row_below ?_ hb (by simp)
    exact World.rowIs_alloc w _ _ _ (fun j hj => by
      match j with
      | 0 | 1 | 2 | 3 | 4 | 5 | 6 => rfl
      | n + 7 => exact absurd (show n + 7 < 7 from hj) (by omega))
  have hs1 : w.heap.size < w1.heap.size := hz.lt
  have hE : Below w.heap.size w w1 := ((Below.refl w.heap.size w).alloc (Nat.le_refl _) _).trans (hb.mono (by simp))
  have c0 := hz.cell (i := 0) (by decide)
  have f0 := hz.frozen 0
  have c1 := hz.cell (i := 1) (by decide)
  have f1 := hz.frozen 1
  have c2 := hz.cell (i := 2) (by decide)
  have f2 := hz.frozen 2
  have c3 := hz.cell (i := 3) (by decide)
  have f3 := hz.frozen 3
  have c4 := hz.cell (i := 4) (by decide)
  have f4 := hz.frozen 4
  have c5 := hz.cell (i := 5) (by decide)
  have f5 := hz.frozen 5
  have c6 := hz.cell (i := 6) (by decide)
  have f6 := hz.frozen 6
  have HZ := Lib.hid hz
  have HE := Lib.hid hE
  clear hb hz hE
  obtain ⟨A, c, rfl, hc, hC⟩ := Kd.R_reads hR
  have hm := Kd.C_max hC
  have HC := Lib.hid hC
  clear hR hC
  rw [hl0]
  clear HC hl0 hc hm
  go_wp2
  refine bodyPost_ret (results_list (rs := [.cell 2 46, .tmp 3]) rfl (by simp) (.cell w.heap.size 46 _ (0, 0) _ rfl (put7_row HZ.out (.int .i64 0) (.int .i64 0) (.int .i64 0) (.int .i64 0) (.int .i64 0) (.int .i64 0) (.int .i64 0) ) Try.underlying46 rfl (by kernel_rfl) (.tmp .nil))) rfl ?_
  exact ⟨rfl, put7_below HE.out (Nat.le_refl _) _ _ _ _ _ _ _⟩

set_option maxHeartbeats 4000000 in
set_option maxRecDepth 100000 in
theorem refRead_bad (a0 : ByteArray) (n m : Nat) (xs : List Int) (k : Int) (w : World) (HL : Hid (tollbarref1_List.f n a0 = some (xs, 0))) (hm1 : xs.length = m + 1) (hk : rd xs 0 = k) (q : Int) (hq : ∀ w, Calls Try.prog 42 #[.int .i64 k] w fun e w' => e = .returned (.int .i64 q) ∧ w = w') (hne : (((m : Int) + 1) == q) = false) :
    Calls Try.prog 32 #[.string a0] w fun e w' => e = .returned (.tuple #[.agg #[.int .i64 0, .int .i64 0, .int .i64 0, .int .i64 0, .int .i64 0, .int .i64 0, .int .i64 0], .int .i64 2200]) ∧ Below w.heap.size w w' := by
  have hne2 : (((m : Int) + 1) != q) = true := by rw [bne, hne]; rfl
  go_enter Try.func32, Try.ntmps32
  go_wp2_with fail
  refine (tollbarref1_List.calls n a0 xs 0 _ HL.out).mono ?_
  rintro e w1 ⟨v, rfl, hR, hb⟩
  have hz : w1.rowIs w.heap.size 46 7 (fun _ => .int .i64 0) := by
    refine row_below ?_ hb (by simp)
    exact World.rowIs_alloc w _ _ _ (fun j hj => by
      match j with
      | 0 | 1 | 2 | 3 | 4 | 5 | 6 => rfl
      | n + 7 => exact absurd (show n + 7 < 7 from hj) (by omega))
  have hs1 : w.heap.size < w1.heap.size := hz.lt
  have hE : Below w.heap.size w w1 := ((Below.refl w.heap.size w).alloc (Nat.le_refl _) _).trans (hb.mono (by simp))
  have c0 := hz.cell (i := 0) (by decide)
  have f0 := hz.frozen 0
  have c1 := hz.cell (i := 1) (by decide)
  have f1 := hz.frozen 1
  have c2 := hz.cell (i := 2) (by decide)
  have f2 := hz.frozen 2
  have c3 := hz.cell (i := 3) (by decide)
  have f3 := hz.frozen 3
  have c4 := hz.cell (i := 4) (by decide)
  have f4 := hz.frozen 4
  have c5 := hz.cell (i := 5) (by decide)
  have f5 := hz.frozen 5
  have c6 := hz.cell (i := 6) (by decide)
  have f6 := hz.frozen 6
  have HZ := Lib.hid hz
  have HE := Lib.hid hE
  clear hb hz hE
  obtain ⟨A, c, rfl, hc, hC⟩ := Kd.R_reads hR
  have hm := Kd.C_max hC
  have HC := Lib.hid hC
  clear hR hC
  rw [hm1] at hm
  have hC := HC.out
  obtain ⟨ad, rfl, hcell⟩ := Kd.at_int hC (0 : Int) (Int.le_refl 0) (by omega)
  rw [show ((0 : Int).toNat) = 0 from rfl, hk] at hcell
  have hcell0 : w1.cell? ad = some (.int .i64 k) := by simpa [Addr.add] using hcell
  have hmb : ((m : Int) + 1 == 0) = false := by
    rw [beq_eq_false_iff_ne]
    omega
  rw [hm1]
  have HQ := Lib.hid hq
  clear HC hc hC hcell hq
  go_wp2_with fail
  refine (HQ.out _).mono ?_
  rintro e w2 ⟨rfl, rfl⟩
  go_wp2_with fail
  refine bodyPost_ret (results_list (rs := [.cell 2 46, .tmp 3]) rfl (by simp) (.cell w.heap.size 46 _ (0, 0) _ rfl (put7_row HZ.out (.int .i64 0) (.int .i64 0) (.int .i64 0) (.int .i64 0) (.int .i64 0) (.int .i64 0) (.int .i64 0) ) Try.underlying46 rfl (by kernel_rfl) (.tmp .nil))) rfl ?_
  exact ⟨rfl, put7_below HE.out (Nat.le_refl _) _ _ _ _ _ _ _⟩


set_option maxHeartbeats 4000000 in
set_option maxRecDepth 100000 in
theorem refRead_1 (a0 : ByteArray) (n : Nat) (xs : List Int) (w : World) (HL : Hid (tollbarref1_List.f n a0 = some (xs, 0))) (hm1 : xs.length = 6) (hk : rd xs 0 = 1) :
    Calls Try.prog 32 #[.string a0] w fun e w' => e = .returned (.tuple #[.agg #[.int .i64 (rd xs 4), .int .i64 (rd xs 5), .int .i64 1, .int .i64 0, .int .i64 (rd xs 1), .int .i64 (rd xs 2), .int .i64 (rd xs 3)], .int .i64 0]) ∧ Below w.heap.size w w' := by
  go_enter Try.func32, Try.ntmps32
  go_wp2_with fail
  refine (tollbarref1_List.calls n a0 xs 0 _ HL.out).mono ?_
  rintro e w1 ⟨v, rfl, hR, hb⟩
  have hz : w1.rowIs w.heap.size 46 7 (fun _ => .int .i64 0) := by
    refine row_below ?_ hb (by simp)
    exact World.rowIs_alloc w _ _ _ (fun j hj => by
      match j with
      | 0 | 1 | 2 | 3 | 4 | 5 | 6 => rfl
      | n + 7 => exact absurd (show n + 7 < 7 from hj) (by omega))
  have hs1 : w.heap.size < w1.heap.size := hz.lt
  have hE : Below w.heap.size w w1 := ((Below.refl w.heap.size w).alloc (Nat.le_refl _) _).trans (hb.mono (by simp))
  have c0 := hz.cell (i := 0) (by decide)
  have f0 := hz.frozen 0
  have c1 := hz.cell (i := 1) (by decide)
  have f1 := hz.frozen 1
  have c2 := hz.cell (i := 2) (by decide)
  have f2 := hz.frozen 2
  have c3 := hz.cell (i := 3) (by decide)
  have f3 := hz.frozen 3
  have c4 := hz.cell (i := 4) (by decide)
  have f4 := hz.frozen 4
  have c5 := hz.cell (i := 5) (by decide)
  have f5 := hz.frozen 5
  have c6 := hz.cell (i := 6) (by decide)
  have f6 := hz.frozen 6
  have HZ := Lib.hid hz
  have HE := Lib.hid hE
  clear hb hz hE
  obtain ⟨A, c, rfl, hc, hC⟩ := Kd.R_reads hR
  have hm := Kd.C_max hC
  have HC := Lib.hid hC
  clear hR hC
  rw [hm1] at hm
  have hC := HC.out
  obtain ⟨ad, rfl, hcell⟩ := Kd.at_int hC (0 : Int) (Int.le_refl 0) (by omega)
  rw [show ((0 : Int).toNat) = 0 from rfl, hk] at hcell
  have hcell0 : w1.cell? ad = some (.int .i64 1) := by simpa [Addr.add] using hcell
  obtain ⟨ad1, ea1, hc1⟩ := Kd.at_int hC (1 : Int) (by decide) (by omega)
  injection ea1 with ea1
  subst ea1
  rw [show ((1 : Int).toNat) = 1 from rfl] at hc1
  have hd1 : ∀ o : Obj, (w1.alloc o).cell? ⟨ad.block, ad.off + 1, none⟩ = some (.int .i64 (rd xs 1)) := fun o => (World.cell?_alloc_some w1 (ad.add 1) o (by rw [hc1]; rfl)).trans hc1
  obtain ⟨ad2, ea2, hc2⟩ := Kd.at_int hC (2 : Int) (by decide) (by omega)
  injection ea2 with ea2
  subst ea2
  rw [show ((2 : Int).toNat) = 2 from rfl] at hc2
  have hd2 : ∀ o : Obj, (w1.alloc o).cell? ⟨ad.block, ad.off + 2, none⟩ = some (.int .i64 (rd xs 2)) := fun o => (World.cell?_alloc_some w1 (ad.add 2) o (by rw [hc2]; rfl)).trans hc2
  obtain ⟨ad3, ea3, hc3⟩ := Kd.at_int hC (3 : Int) (by decide) (by omega)
  injection ea3 with ea3
  subst ea3
  rw [show ((3 : Int).toNat) = 3 from rfl] at hc3
  have hd3 : ∀ o : Obj, (w1.alloc o).cell? ⟨ad.block, ad.off + 3, none⟩ = some (.int .i64 (rd xs 3)) := fun o => (World.cell?_alloc_some w1 (ad.add 3) o (by rw [hc3]; rfl)).trans hc3
  obtain ⟨ad4, ea4, hc4⟩ := Kd.at_int hC (4 : Int) (by decide) (by omega)
  injection ea4 with ea4
  subst ea4
  rw [show ((4 : Int).toNat) = 4 from rfl] at hc4
  have hd4 : ∀ o : Obj, (w1.alloc o).cell? ⟨ad.block, ad.off + 4, none⟩ = some (.int .i64 (rd xs 4)) := fun o => (World.cell?_alloc_some w1 (ad.add 4) o (by rw [hc4]; rfl)).trans hc4
  obtain ⟨ad5, ea5, hc5⟩ := Kd.at_int hC (5 : Int) (by decide) (by omega)
  injection ea5 with ea5
  subst ea5
  rw [show ((5 : Int).toNat) = 5 from rfl] at hc5
  have hd5 : ∀ o : Obj, (w1.alloc o).cell? ⟨ad.block, ad.off + 5, none⟩ = some (.int .i64 (rd xs 5)) := fun o => (World.cell?_alloc_some w1 (ad.add 5) o (by rw [hc5]; rfl)).trans hc5
  rw [hm1]
  clear HC hc hC hcell
  go_wp2_with fail
  refine (many_1 _).mono ?_
  rintro e w2 ⟨rfl, rfl⟩
  go_wp2_with fail
  refine bodyPost_ret (results_list (rs := [.cell 2 46, .tmp 3]) rfl (by simp) (.cell w.heap.size 46 _ (0, 0) _ rfl (put7_row_alloc HZ.out _ (.int .i64 (rd xs 4)) (.int .i64 (rd xs 5)) (.int .i64 1) (.int .i64 0) (.int .i64 (rd xs 1)) (.int .i64 (rd xs 2)) (.int .i64 (rd xs 3))) Try.underlying46 rfl (by kernel_rfl) (.tmp .nil))) rfl ?_
  exact ⟨rfl, (put7_below HE.out (Nat.le_refl _) _ _ _ _ _ _ _).alloc (by rw [put7_size]; omega) _⟩


set_option maxHeartbeats 4000000 in
set_option maxRecDepth 100000 in
theorem refRead_2 (a0 : ByteArray) (n : Nat) (xs : List Int) (w : World) (HL : Hid (tollbarref1_List.f n a0 = some (xs, 0))) (hm1 : xs.length = 5) (hk : rd xs 0 = 2) :
    Calls Try.prog 32 #[.string a0] w fun e w' => e = .returned (.tuple #[.agg #[.int .i64 (rd xs 3), .int .i64 (rd xs 4), .int .i64 2, .int .i64 (rd xs 1), .int .i64 0, .int .i64 0, .int .i64 (rd xs 2)], .int .i64 0]) ∧ Below w.heap.size w w' := by
  go_enter Try.func32, Try.ntmps32
  go_wp2_with fail
  refine (tollbarref1_List.calls n a0 xs 0 _ HL.out).mono ?_
  rintro e w1 ⟨v, rfl, hR, hb⟩
  have hz : w1.rowIs w.heap.size 46 7 (fun _ => .int .i64 0) := by
    refine row_below ?_ hb (by simp)
    exact World.rowIs_alloc w _ _ _ (fun j hj => by
      match j with
      | 0 | 1 | 2 | 3 | 4 | 5 | 6 => rfl
      | n + 7 => exact absurd (show n + 7 < 7 from hj) (by omega))
  have hs1 : w.heap.size < w1.heap.size := hz.lt
  have hE : Below w.heap.size w w1 := ((Below.refl w.heap.size w).alloc (Nat.le_refl _) _).trans (hb.mono (by simp))
  have c0 := hz.cell (i := 0) (by decide)
  have f0 := hz.frozen 0
  have c1 := hz.cell (i := 1) (by decide)
  have f1 := hz.frozen 1
  have c2 := hz.cell (i := 2) (by decide)
  have f2 := hz.frozen 2
  have c3 := hz.cell (i := 3) (by decide)
  have f3 := hz.frozen 3
  have c4 := hz.cell (i := 4) (by decide)
  have f4 := hz.frozen 4
  have c5 := hz.cell (i := 5) (by decide)
  have f5 := hz.frozen 5
  have c6 := hz.cell (i := 6) (by decide)
  have f6 := hz.frozen 6
  have HZ := Lib.hid hz
  have HE := Lib.hid hE
  clear hb hz hE
  obtain ⟨A, c, rfl, hc, hC⟩ := Kd.R_reads hR
  have hm := Kd.C_max hC
  have HC := Lib.hid hC
  clear hR hC
  rw [hm1] at hm
  have hC := HC.out
  obtain ⟨ad, rfl, hcell⟩ := Kd.at_int hC (0 : Int) (Int.le_refl 0) (by omega)
  rw [show ((0 : Int).toNat) = 0 from rfl, hk] at hcell
  have hcell0 : w1.cell? ad = some (.int .i64 2) := by simpa [Addr.add] using hcell
  obtain ⟨ad1, ea1, hc1⟩ := Kd.at_int hC (1 : Int) (by decide) (by omega)
  injection ea1 with ea1
  subst ea1
  rw [show ((1 : Int).toNat) = 1 from rfl] at hc1
  have hd1 : ∀ o : Obj, (w1.alloc o).cell? ⟨ad.block, ad.off + 1, none⟩ = some (.int .i64 (rd xs 1)) := fun o => (World.cell?_alloc_some w1 (ad.add 1) o (by rw [hc1]; rfl)).trans hc1
  obtain ⟨ad2, ea2, hc2⟩ := Kd.at_int hC (2 : Int) (by decide) (by omega)
  injection ea2 with ea2
  subst ea2
  rw [show ((2 : Int).toNat) = 2 from rfl] at hc2
  have hd2 : ∀ o : Obj, (w1.alloc o).cell? ⟨ad.block, ad.off + 2, none⟩ = some (.int .i64 (rd xs 2)) := fun o => (World.cell?_alloc_some w1 (ad.add 2) o (by rw [hc2]; rfl)).trans hc2
  obtain ⟨ad3, ea3, hc3⟩ := Kd.at_int hC (3 : Int) (by decide) (by omega)
  injection ea3 with ea3
  subst ea3
  rw [show ((3 : Int).toNat) = 3 from rfl] at hc3
  have hd3 : ∀ o : Obj, (w1.alloc o).cell? ⟨ad.block, ad.off + 3, none⟩ = some (.int .i64 (rd xs 3)) := fun o => (World.cell?_alloc_some w1 (ad.add 3) o (by rw [hc3]; rfl)).trans hc3
  obtain ⟨ad4, ea4, hc4⟩ := Kd.at_int hC (4 : Int) (by decide) (by omega)
  injection ea4 with ea4
  subst ea4
  rw [show ((4 : Int).toNat) = 4 from rfl] at hc4
  have hd4 : ∀ o : Obj, (w1.alloc o).cell? ⟨ad.block, ad.off + 4, none⟩ = some (.int .i64 (rd xs 4)) := fun o => (World.cell?_alloc_some w1 (ad.add 4) o (by rw [hc4]; rfl)).trans hc4
  rw [hm1]
  clear HC hc hC hcell
  go_wp2_with fail
  refine (many_2 _).mono ?_
  rintro e w2 ⟨rfl, rfl⟩
  go_wp2_with fail
  refine bodyPost_ret (results_list (rs := [.cell 2 46, .tmp 3]) rfl (by simp) (.cell w.heap.size 46 _ (0, 0) _ rfl (put7_row_alloc HZ.out _ (.int .i64 (rd xs 3)) (.int .i64 (rd xs 4)) (.int .i64 2) (.int .i64 (rd xs 1)) (.int .i64 0) (.int .i64 0) (.int .i64 (rd xs 2))) Try.underlying46 rfl (by kernel_rfl) (.tmp .nil))) rfl ?_
  exact ⟨rfl, (put7_below HE.out (Nat.le_refl _) _ _ _ _ _ _ _).alloc (by rw [put7_size]; omega) _⟩


set_option maxHeartbeats 4000000 in
set_option maxRecDepth 100000 in
theorem refRead_3 (a0 : ByteArray) (n : Nat) (xs : List Int) (w : World) (HL : Hid (tollbarref1_List.f n a0 = some (xs, 0))) (hm1 : xs.length = 2) (hk : rd xs 0 = 3) :
    Calls Try.prog 32 #[.string a0] w fun e w' => e = .returned (.tuple #[.agg #[.int .i64 0, .int .i64 0, .int .i64 3, .int .i64 (rd xs 1), .int .i64 0, .int .i64 0, .int .i64 0], .int .i64 0]) ∧ Below w.heap.size w w' := by
  go_enter Try.func32, Try.ntmps32
  go_wp2_with fail
  refine (tollbarref1_List.calls n a0 xs 0 _ HL.out).mono ?_
  rintro e w1 ⟨v, rfl, hR, hb⟩
  have hz : w1.rowIs w.heap.size 46 7 (fun _ => .int .i64 0) := by
    refine row_below ?_ hb (by simp)
    exact World.rowIs_alloc w _ _ _ (fun j hj => by
      match j with
      | 0 | 1 | 2 | 3 | 4 | 5 | 6 => rfl
      | n + 7 => exact absurd (show n + 7 < 7 from hj) (by omega))
  have hs1 : w.heap.size < w1.heap.size := hz.lt
  have hE : Below w.heap.size w w1 := ((Below.refl w.heap.size w).alloc (Nat.le_refl _) _).trans (hb.mono (by simp))
  have c0 := hz.cell (i := 0) (by decide)
  have f0 := hz.frozen 0
  have c1 := hz.cell (i := 1) (by decide)
  have f1 := hz.frozen 1
  have c2 := hz.cell (i := 2) (by decide)
  have f2 := hz.frozen 2
  have c3 := hz.cell (i := 3) (by decide)
  have f3 := hz.frozen 3
  have c4 := hz.cell (i := 4) (by decide)
  have f4 := hz.frozen 4
  have c5 := hz.cell (i := 5) (by decide)
  have f5 := hz.frozen 5
  have c6 := hz.cell (i := 6) (by decide)
  have f6 := hz.frozen 6
  have HZ := Lib.hid hz
  have HE := Lib.hid hE
  clear hb hz hE
  obtain ⟨A, c, rfl, hc, hC⟩ := Kd.R_reads hR
  have hm := Kd.C_max hC
  have HC := Lib.hid hC
  clear hR hC
  rw [hm1] at hm
  have hC := HC.out
  obtain ⟨ad, rfl, hcell⟩ := Kd.at_int hC (0 : Int) (Int.le_refl 0) (by omega)
  rw [show ((0 : Int).toNat) = 0 from rfl, hk] at hcell
  have hcell0 : w1.cell? ad = some (.int .i64 3) := by simpa [Addr.add] using hcell
  obtain ⟨ad1, ea1, hc1⟩ := Kd.at_int hC (1 : Int) (by decide) (by omega)
  injection ea1 with ea1
  subst ea1
  rw [show ((1 : Int).toNat) = 1 from rfl] at hc1
  have hd1 : ∀ o : Obj, (w1.alloc o).cell? ⟨ad.block, ad.off + 1, none⟩ = some (.int .i64 (rd xs 1)) := fun o => (World.cell?_alloc_some w1 (ad.add 1) o (by rw [hc1]; rfl)).trans hc1
  rw [hm1]
  clear HC hc hC hcell
  go_wp2_with fail
  refine (many_3 _).mono ?_
  rintro e w2 ⟨rfl, rfl⟩
  go_wp2_with fail
  refine bodyPost_ret (results_list (rs := [.cell 2 46, .tmp 3]) rfl (by simp) (.cell w.heap.size 46 _ (0, 0) _ rfl (put7_row_alloc HZ.out _ (.int .i64 0) (.int .i64 0) (.int .i64 3) (.int .i64 (rd xs 1)) (.int .i64 0) (.int .i64 0) (.int .i64 0)) Try.underlying46 rfl (by kernel_rfl) (.tmp .nil))) rfl ?_
  exact ⟨rfl, (put7_below HE.out (Nat.le_refl _) _ _ _ _ _ _ _).alloc (by rw [put7_size]; omega) _⟩


set_option maxHeartbeats 4000000 in
set_option maxRecDepth 100000 in
theorem refRead_4 (a0 : ByteArray) (n : Nat) (xs : List Int) (w : World) (HL : Hid (tollbarref1_List.f n a0 = some (xs, 0))) (hm1 : xs.length = 2) (hk : rd xs 0 = 4) :
    Calls Try.prog 32 #[.string a0] w fun e w' => e = .returned (.tuple #[.agg #[.int .i64 0, .int .i64 0, .int .i64 4, .int .i64 (rd xs 1), .int .i64 0, .int .i64 0, .int .i64 0], .int .i64 0]) ∧ Below w.heap.size w w' := by
  go_enter Try.func32, Try.ntmps32
  go_wp2_with fail
  refine (tollbarref1_List.calls n a0 xs 0 _ HL.out).mono ?_
  rintro e w1 ⟨v, rfl, hR, hb⟩
  have hz : w1.rowIs w.heap.size 46 7 (fun _ => .int .i64 0) := by
    refine row_below ?_ hb (by simp)
    exact World.rowIs_alloc w _ _ _ (fun j hj => by
      match j with
      | 0 | 1 | 2 | 3 | 4 | 5 | 6 => rfl
      | n + 7 => exact absurd (show n + 7 < 7 from hj) (by omega))
  have hs1 : w.heap.size < w1.heap.size := hz.lt
  have hE : Below w.heap.size w w1 := ((Below.refl w.heap.size w).alloc (Nat.le_refl _) _).trans (hb.mono (by simp))
  have c0 := hz.cell (i := 0) (by decide)
  have f0 := hz.frozen 0
  have c1 := hz.cell (i := 1) (by decide)
  have f1 := hz.frozen 1
  have c2 := hz.cell (i := 2) (by decide)
  have f2 := hz.frozen 2
  have c3 := hz.cell (i := 3) (by decide)
  have f3 := hz.frozen 3
  have c4 := hz.cell (i := 4) (by decide)
  have f4 := hz.frozen 4
  have c5 := hz.cell (i := 5) (by decide)
  have f5 := hz.frozen 5
  have c6 := hz.cell (i := 6) (by decide)
  have f6 := hz.frozen 6
  have HZ := Lib.hid hz
  have HE := Lib.hid hE
  clear hb hz hE
  obtain ⟨A, c, rfl, hc, hC⟩ := Kd.R_reads hR
  have hm := Kd.C_max hC
  have HC := Lib.hid hC
  clear hR hC
  rw [hm1] at hm
  have hC := HC.out
  obtain ⟨ad, rfl, hcell⟩ := Kd.at_int hC (0 : Int) (Int.le_refl 0) (by omega)
  rw [show ((0 : Int).toNat) = 0 from rfl, hk] at hcell
  have hcell0 : w1.cell? ad = some (.int .i64 4) := by simpa [Addr.add] using hcell
  obtain ⟨ad1, ea1, hc1⟩ := Kd.at_int hC (1 : Int) (by decide) (by omega)
  injection ea1 with ea1
  subst ea1
  rw [show ((1 : Int).toNat) = 1 from rfl] at hc1
  have hd1 : ∀ o : Obj, (w1.alloc o).cell? ⟨ad.block, ad.off + 1, none⟩ = some (.int .i64 (rd xs 1)) := fun o => (World.cell?_alloc_some w1 (ad.add 1) o (by rw [hc1]; rfl)).trans hc1
  rw [hm1]
  clear HC hc hC hcell
  go_wp2_with fail
  refine (many_4 _).mono ?_
  rintro e w2 ⟨rfl, rfl⟩
  go_wp2_with fail
  refine bodyPost_ret (results_list (rs := [.cell 2 46, .tmp 3]) rfl (by simp) (.cell w.heap.size 46 _ (0, 0) _ rfl (put7_row_alloc HZ.out _ (.int .i64 0) (.int .i64 0) (.int .i64 4) (.int .i64 (rd xs 1)) (.int .i64 0) (.int .i64 0) (.int .i64 0)) Try.underlying46 rfl (by kernel_rfl) (.tmp .nil))) rfl ?_
  exact ⟨rfl, (put7_below HE.out (Nat.le_refl _) _ _ _ _ _ _ _).alloc (by rw [put7_size]; omega) _⟩


set_option maxHeartbeats 4000000 in
set_option maxRecDepth 100000 in
theorem refRead_5 (a0 : ByteArray) (n : Nat) (xs : List Int) (w : World) (HL : Hid (tollbarref1_List.f n a0 = some (xs, 0))) (hm1 : xs.length = 3) (hk : rd xs 0 = 5) :
    Calls Try.prog 32 #[.string a0] w fun e w' => e = .returned (.tuple #[.agg #[.int .i64 (rd xs 2), .int .i64 0, .int .i64 5, .int .i64 (rd xs 1), .int .i64 0, .int .i64 0, .int .i64 0], .int .i64 0]) ∧ Below w.heap.size w w' := by
  go_enter Try.func32, Try.ntmps32
  go_wp2_with fail
  refine (tollbarref1_List.calls n a0 xs 0 _ HL.out).mono ?_
  rintro e w1 ⟨v, rfl, hR, hb⟩
  have hz : w1.rowIs w.heap.size 46 7 (fun _ => .int .i64 0) := by
    refine row_below ?_ hb (by simp)
    exact World.rowIs_alloc w _ _ _ (fun j hj => by
      match j with
      | 0 | 1 | 2 | 3 | 4 | 5 | 6 => rfl
      | n + 7 => exact absurd (show n + 7 < 7 from hj) (by omega))
  have hs1 : w.heap.size < w1.heap.size := hz.lt
  have hE : Below w.heap.size w w1 := ((Below.refl w.heap.size w).alloc (Nat.le_refl _) _).trans (hb.mono (by simp))
  have c0 := hz.cell (i := 0) (by decide)
  have f0 := hz.frozen 0
  have c1 := hz.cell (i := 1) (by decide)
  have f1 := hz.frozen 1
  have c2 := hz.cell (i := 2) (by decide)
  have f2 := hz.frozen 2
  have c3 := hz.cell (i := 3) (by decide)
  have f3 := hz.frozen 3
  have c4 := hz.cell (i := 4) (by decide)
  have f4 := hz.frozen 4
  have c5 := hz.cell (i := 5) (by decide)
  have f5 := hz.frozen 5
  have c6 := hz.cell (i := 6) (by decide)
  have f6 := hz.frozen 6
  have HZ := Lib.hid hz
  have HE := Lib.hid hE
  clear hb hz hE
  obtain ⟨A, c, rfl, hc, hC⟩ := Kd.R_reads hR
  have hm := Kd.C_max hC
  have HC := Lib.hid hC
  clear hR hC
  rw [hm1] at hm
  have hC := HC.out
  obtain ⟨ad, rfl, hcell⟩ := Kd.at_int hC (0 : Int) (Int.le_refl 0) (by omega)
  rw [show ((0 : Int).toNat) = 0 from rfl, hk] at hcell
  have hcell0 : w1.cell? ad = some (.int .i64 5) := by simpa [Addr.add] using hcell
  obtain ⟨ad1, ea1, hc1⟩ := Kd.at_int hC (1 : Int) (by decide) (by omega)
  injection ea1 with ea1
  subst ea1
  rw [show ((1 : Int).toNat) = 1 from rfl] at hc1
  have hd1 : ∀ o : Obj, (w1.alloc o).cell? ⟨ad.block, ad.off + 1, none⟩ = some (.int .i64 (rd xs 1)) := fun o => (World.cell?_alloc_some w1 (ad.add 1) o (by rw [hc1]; rfl)).trans hc1
  obtain ⟨ad2, ea2, hc2⟩ := Kd.at_int hC (2 : Int) (by decide) (by omega)
  injection ea2 with ea2
  subst ea2
  rw [show ((2 : Int).toNat) = 2 from rfl] at hc2
  have hd2 : ∀ o : Obj, (w1.alloc o).cell? ⟨ad.block, ad.off + 2, none⟩ = some (.int .i64 (rd xs 2)) := fun o => (World.cell?_alloc_some w1 (ad.add 2) o (by rw [hc2]; rfl)).trans hc2
  rw [hm1]
  clear HC hc hC hcell
  go_wp2_with fail
  refine (many_5 _).mono ?_
  rintro e w2 ⟨rfl, rfl⟩
  go_wp2_with fail
  refine bodyPost_ret (results_list (rs := [.cell 2 46, .tmp 3]) rfl (by simp) (.cell w.heap.size 46 _ (0, 0) _ rfl (put7_row_alloc HZ.out _ (.int .i64 (rd xs 2)) (.int .i64 0) (.int .i64 5) (.int .i64 (rd xs 1)) (.int .i64 0) (.int .i64 0) (.int .i64 0)) Try.underlying46 rfl (by kernel_rfl) (.tmp .nil))) rfl ?_
  exact ⟨rfl, (put7_below HE.out (Nat.le_refl _) _ _ _ _ _ _ _).alloc (by rw [put7_size]; omega) _⟩


set_option maxHeartbeats 4000000 in
set_option maxRecDepth 100000 in
theorem refRead_6 (a0 : ByteArray) (n : Nat) (xs : List Int) (w : World) (HL : Hid (tollbarref1_List.f n a0 = some (xs, 0))) (hm1 : xs.length = 2) (hk : rd xs 0 = 6) :
    Calls Try.prog 32 #[.string a0] w fun e w' => e = .returned (.tuple #[.agg #[.int .i64 (rd xs 1), .int .i64 0, .int .i64 6, .int .i64 0, .int .i64 0, .int .i64 0, .int .i64 0], .int .i64 0]) ∧ Below w.heap.size w w' := by
  go_enter Try.func32, Try.ntmps32
  go_wp2_with fail
  refine (tollbarref1_List.calls n a0 xs 0 _ HL.out).mono ?_
  rintro e w1 ⟨v, rfl, hR, hb⟩
  have hz : w1.rowIs w.heap.size 46 7 (fun _ => .int .i64 0) := by
    refine row_below ?_ hb (by simp)
    exact World.rowIs_alloc w _ _ _ (fun j hj => by
      match j with
      | 0 | 1 | 2 | 3 | 4 | 5 | 6 => rfl
      | n + 7 => exact absurd (show n + 7 < 7 from hj) (by omega))
  have hs1 : w.heap.size < w1.heap.size := hz.lt
  have hE : Below w.heap.size w w1 := ((Below.refl w.heap.size w).alloc (Nat.le_refl _) _).trans (hb.mono (by simp))
  have c0 := hz.cell (i := 0) (by decide)
  have f0 := hz.frozen 0
  have c1 := hz.cell (i := 1) (by decide)
  have f1 := hz.frozen 1
  have c2 := hz.cell (i := 2) (by decide)
  have f2 := hz.frozen 2
  have c3 := hz.cell (i := 3) (by decide)
  have f3 := hz.frozen 3
  have c4 := hz.cell (i := 4) (by decide)
  have f4 := hz.frozen 4
  have c5 := hz.cell (i := 5) (by decide)
  have f5 := hz.frozen 5
  have c6 := hz.cell (i := 6) (by decide)
  have f6 := hz.frozen 6
  have HZ := Lib.hid hz
  have HE := Lib.hid hE
  clear hb hz hE
  obtain ⟨A, c, rfl, hc, hC⟩ := Kd.R_reads hR
  have hm := Kd.C_max hC
  have HC := Lib.hid hC
  clear hR hC
  rw [hm1] at hm
  have hC := HC.out
  obtain ⟨ad, rfl, hcell⟩ := Kd.at_int hC (0 : Int) (Int.le_refl 0) (by omega)
  rw [show ((0 : Int).toNat) = 0 from rfl, hk] at hcell
  have hcell0 : w1.cell? ad = some (.int .i64 6) := by simpa [Addr.add] using hcell
  obtain ⟨ad1, ea1, hc1⟩ := Kd.at_int hC (1 : Int) (by decide) (by omega)
  injection ea1 with ea1
  subst ea1
  rw [show ((1 : Int).toNat) = 1 from rfl] at hc1
  have hd1 : ∀ o : Obj, (w1.alloc o).cell? ⟨ad.block, ad.off + 1, none⟩ = some (.int .i64 (rd xs 1)) := fun o => (World.cell?_alloc_some w1 (ad.add 1) o (by rw [hc1]; rfl)).trans hc1
  rw [hm1]
  clear HC hc hC hcell
  go_wp2_with fail
  refine (many_6 _).mono ?_
  rintro e w2 ⟨rfl, rfl⟩
  go_wp2_with fail
  refine bodyPost_ret (results_list (rs := [.cell 2 46, .tmp 3]) rfl (by simp) (.cell w.heap.size 46 _ (0, 0) _ rfl (put7_row_alloc HZ.out _ (.int .i64 (rd xs 1)) (.int .i64 0) (.int .i64 6) (.int .i64 0) (.int .i64 0) (.int .i64 0) (.int .i64 0)) Try.underlying46 rfl (by kernel_rfl) (.tmp .nil))) rfl ?_
  exact ⟨rfl, (put7_below HE.out (Nat.le_refl _) _ _ _ _ _ _ _).alloc (by rw [put7_size]; omega) _⟩


theorem list_l1 : ∀ (k : Nat) (s : ByteArray) (acc : List Int) (p : Int), tollbarref1_List.l0 k s acc p = listF k s acc p
  | 0, _, _, _ => rfl
  | k + 1, s, acc, p => by
    unfold tollbarref1_List.l0 listF
    congr 1
    have e : tollbarref1_Get.f s p = word_Get.f s p := rfl
    rw [e]
    congr 1
    funext r
    rw [list_l1 k]
def tollbarref22_ReadAsk.f (s : ByteArray) : Option (Int × Int × Int × Int × Int × Int × Int × Int) := ask_Read.f s
theorem tollbarref22_ReadAsk.calls (a0 : ByteArray) (r1 r2 r3 r4 r5 r6 r7 r8 : Int) (w : World) (h : tollbarref22_ReadAsk.f a0 = some (r1, r2, r3, r4, r5, r6, r7, r8)) :
    Calls Try.prog 32 #[.string a0] w fun e w' => e = .returned (.tuple #[.agg #[.int .i64 r1, .int .i64 r2, .int .i64 r3, .int .i64 r4, .int .i64 r5, .int .i64 r6, .int .i64 r7], .int .i64 r8]) ∧ Below w.heap.size w w' := by
  unfold tollbarref22_ReadAsk.f ask_Read.f at h
  by_cases hsz : a0.size ≤ 1099511627776
  case neg => rw [if_neg hsz] at h; cases h
  rw [if_pos hsz, AskL.list_f] at h
  obtain ⟨n, hn⟩ : ∃ n, a0.size + 1 = n := ⟨_, rfl⟩
  rw [hn] at h
  cases hL : listF n a0 [] 0 with
  | none => rw [hL] at h; cases h
  | some p =>
  obtain ⟨xs, x⟩ := p
  rw [hL] at h
  have hf : readQ xs x = (r1, r2, r3, r4, r5, r6, r7, r8) := Option.some.inj h
  have HL : Hid (tollbarref1_List.f n a0 = some (xs, x)) := Lib.hid ((list_l1 n a0 [] 0).trans hL)
  clear h hL hsz hn
  unfold readQ at hf
  by_cases hx : x = 0
  case neg =>
    rw [if_pos (Or.inl hx)] at hf
    cases hf
    exact refRead_err a0 n xs x w HL (beq_eq_false_iff_ne.mpr hx)
  subst hx
  by_cases h0 : xs = []
  · rw [if_pos (Or.inr h0)] at hf
    cases hf
    exact refRead_nil a0 n xs w HL (by rw [h0]; rfl)
  rw [if_neg (by simp [h0])] at hf
  obtain ⟨m, hm⟩ : ∃ m, xs.length = m + 1 := ⟨xs.length - 1, by have := List.length_pos_iff.2 h0; omega⟩
  obtain ⟨k, hk⟩ : ∃ k, rd xs 0 = k := ⟨_, rfl⟩
  rw [hk] at hf
  by_cases hb : offsK k = [] ∨ (offsK k).length + 1 ≠ xs.length
  · rw [if_pos hb] at hf
    cases hf
    refine refRead_bad a0 n m xs k w HL hm hk _ (fun w => many_any k w) ?_
    rw [beq_eq_false_iff_ne]
    by_cases he : offsK k = []
    · rw [if_pos he]
      omega
    · rw [if_neg he]
      rcases hb with h | h
      · exact absurd h he
      · omega
  rw [if_neg hb] at hf
  have hl : (offsK k).length + 1 = xs.length := Classical.byContradiction fun h => hb (Or.inr h)
  rcases AskL.offs_cases k with e | ⟨rfl, e⟩ | ⟨rfl, e⟩ | ⟨rfl, e⟩ | ⟨rfl, e⟩ | ⟨rfl, e⟩ | ⟨rfl, e⟩
  · exact absurd (Or.inl e) hb
  · rw [e] at hf hl
    match xs, hl, hf, hk, HL, hm with
    | [y0, y1, y2, y3, y4, y5], _, hf, hk, HL, hm =>
      have hr := refRead_1 a0 n [y0, y1, y2, y3, y4, y5] w HL rfl hk
      cases hf
      exact hr
  · rw [e] at hf hl
    match xs, hl, hf, hk, HL, hm with
    | [y0, y1, y2, y3, y4], _, hf, hk, HL, hm =>
      have hr := refRead_2 a0 n [y0, y1, y2, y3, y4] w HL rfl hk
      cases hf
      exact hr
  · rw [e] at hf hl
    match xs, hl, hf, hk, HL, hm with
    | [y0, y1], _, hf, hk, HL, hm =>
      have hr := refRead_3 a0 n [y0, y1] w HL rfl hk
      cases hf
      exact hr
  · rw [e] at hf hl
    match xs, hl, hf, hk, HL, hm with
    | [y0, y1], _, hf, hk, HL, hm =>
      have hr := refRead_4 a0 n [y0, y1] w HL rfl hk
      cases hf
      exact hr
  · rw [e] at hf hl
    match xs, hl, hf, hk, HL, hm with
    | [y0, y1, y2], _, hf, hk, HL, hm =>
      have hr := refRead_5 a0 n [y0, y1, y2] w HL rfl hk
      cases hf
      exact hr
  · rw [e] at hf hl
    match xs, hl, hf, hk, HL, hm with
    | [y0, y1], _, hf, hk, HL, hm =>
      have hr := refRead_6 a0 n [y0, y1] w HL rfl hk
      cases hf
      exact hr
end Go.Proofs.Ytikblicmnfnomaa.Man
