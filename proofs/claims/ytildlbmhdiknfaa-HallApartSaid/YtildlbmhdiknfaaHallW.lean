/- The hall's functions that write: New, Input, Take. -/
import Derived.Test.YtildlbmhdiknfaaHallR
set_option linter.unusedVariables false
namespace Go.Proofs.Ytildlbmhdiknfaa.Man
open Go.RowKit Go.Proofs.YtildlbmhdiknfaaW.PrintWords Go.Proofs.YtildlbmhdiknfaaW.PrintLast Go.Proofs.YtildlbmhdiknfaaW.PrintMore

theorem row_form {e base : Nat} {w : World} {ok : Nat → Prop} {v : Value} {xs : List ByteArray} (h : Kd.R Kd.string e w base ok v xs) (hp : 0 < xs.length) :
    ∃ b c, v = .slice (some ⟨b, 0, none⟩) xs.length c ∧ base ≤ b ∧ b < w.heap.size ∧ ∃ cells, w.heap[b]? = some (.cells cells e (0, 0)) := by
  obtain ⟨h0, inner, hq, hr⟩ := h
  rcases hq.2 with ⟨_, h1⟩ | ⟨g, cap, cur, rfl, hb, hh, _⟩
  · omega
  · exact ⟨g, cap, rfl, hb, blk_lt hh, cur, hh⟩
theorem add_zero_at (b n : Nat) : (⟨b, 0, none⟩ : Addr).add n = ⟨b, n, none⟩ := by
  unfold Addr.add
  split
  · simp [*]
  · simp
/-- An inbox is written. -/
theorem hall_set {t : Nat} {w0 w : World} {g b c : Nat} {m : Int} {bs : List ByteArray} (H : HallIs t w0 w g (.slice (some ⟨b, 0, none⟩) bs.length c) m bs) (k : Int) (x : ByteArray) (hx : x.size ≤ 256) :
    HallIs t w0 (w.setCell ⟨b, k.toNat, none⟩ (.string x)) g (.slice (some ⟨b, 0, none⟩) bs.length c) m (bs.set k.toNat x) ∧ Steps w (w.setCell ⟨b, k.toNat, none⟩ (.string x)) g (.slice (some ⟨b, 0, none⟩) bs.length c) (.slice (some ⟨b, 0, none⟩) bs.length c) := by
  have hne : b ≠ g := fun e => H.ne (by simp [Value.ownBlock, e])
  obtain ⟨h1, h2⟩ := Kd.R_put H.own k x
  have hlen : (bs.set k.toNat x).length = bs.length := List.length_set
  have hge : w0.heap.size ≤ b := by
    obtain ⟨h0, inner, hq, hr⟩ := H.own
    rcases hq.2 with ⟨h, _⟩ | ⟨g2, cap, cur, h, hb, _⟩
    · cases h
    · injection h with h
      injection h with h
      injection h with h
      omega
  refine ⟨⟨?_, h1, H.ge, H.ne, H.below.setCell (p := ⟨b, k.toNat, none⟩) hge _, H.most, by rw [hlen]; exact H.len, fun y hy => ?_⟩, ⟨?_, fun j h1 h2 h3 => ?_, Or.inl rfl⟩⟩
  · rw [Below.heap_setCell _ _ _ _ (fun e => hne e.symm)]
    exact H.cells
  · rcases List.mem_or_eq_of_mem_set hy with h | h
    · exact H.box y h
    · rw [h]
      exact hx
  · rw [Deep.nblk_setCell]
    exact Nat.le_refl _
  · exact Below.heap_setCell _ _ _ _ (fun e => h3 (by simp [Value.ownBlock, e]))

set_option maxHeartbeats 4000000 in
set_option maxRecDepth 100000 in
theorem hall_New_bad (m : Int) (w : World) (hm : m < 1 ∨ m > 4) :
    Calls Try.prog 21 #[.int .i64 m] w fun e w' => e = .returned (.tuple #[.pointer none, .int .i64 2700]) ∧ w = w' := by
  by_cases h1 : m < 1
  · have hd : decide (m < 1) = true := by simpa using h1
    go_enter Try.func21, Try.ntmps21
    go_wp2
    go_ret2
    exact ⟨rfl, rfl⟩
  · have hd : decide (m < 1) = false := by simpa using h1
    have hd2 : decide (m > 4) = true := by simp; omega
    go_enter Try.func21, Try.ntmps21
    go_wp2
    go_ret2
    exact ⟨rfl, rfl⟩
set_option maxHeartbeats 4000000 in
set_option maxRecDepth 100000 in
theorem hall_New (m : Int) (w0 w : World) (hm : 1 ≤ m ∧ m ≤ 4) (hB : Below w0.heap.size w0 w) :
    Calls Try.prog 21 #[.int .i64 m] w fun e w' => e = .returned (.tuple #[.pointer (some ⟨w.heap.size, 0, none⟩), .int .i64 0]) ∧ HallIs 72 w0 w' w.heap.size (.slice none 0 0) m [] ∧ Below w.heap.size w w' := by
  have hd : decide (m < 1) = false := by simp; omega
  have hd2 : decide (m > 4) = false := by simp; omega
  have HM := Lib.hid hm
  clear hm
  go_enter Try.func21, Try.ntmps21
  go_wp2
  go_ret2
  refine ⟨rfl, ⟨Deep.blk_alloc_new _ _, Kd.R_nil _ _ _ _ _, hB.size, by simp [Value.ownBlock], hB.alloc hB.size _, HM.out.2, by simp, by simp⟩, (Below.refl _ _).alloc (Nat.le_refl _) _⟩

set_option maxHeartbeats 4000000 in
set_option maxRecDepth 100000 in
theorem hall_Input (w0 w : World) (g : Nat) (v : Value) (m : Int) (bs : List ByteArray) (k : Int) (s : ByteArray) (H : HallIs 72 w0 w g v m bs) :
    Calls Try.prog 30 #[.pointer (some ⟨g, 0, none⟩), .int .i64 k, .string s] w fun e w' => ∃ v', e = .returned (.int .i64 (inputF bs k s).1) ∧ HallIs 72 w0 w' g v' m (inputF bs k s).2 ∧ Steps w w' g v v' := by
  have HH := Lib.hid H
  by_cases hk : 0 ≤ k ∧ k < (bs.length : Int)
  case neg =>
    rw [inputF, if_neg hk]
    have hf : hasF bs k = false := by
      rw [← Bool.not_eq_true, hasF, Bool.and_eq_true, decide_eq_true_eq, decide_eq_true_eq]
      exact hk
    clear H hk
    go_enter Try.func30, Try.ntmps30
    go_wp2_with fail
    refine (hall_Has w0 w g v m bs k HH.out).mono ?_
    rintro e w1 ⟨rfl, nd, rfl⟩
    rw [hf]
    go_wp2
    go_ret
    exact ⟨_, rfl, HH.out.drewN _, Steps.drewN _ _ _ _⟩
  have hf : hasF bs k = true := by
    rw [hasF, Bool.and_eq_true, decide_eq_true_eq, decide_eq_true_eq]
    exact hk
  rw [inputF, if_pos hk]
  obtain ⟨b, c, rfl, hgb, hbl, cl, hcl⟩ := row_form H.own (by omega)
  obtain ⟨A2, c2, e2, hc, hC⟩ := Kd.R_reads H.own
  injection e2 with e2 _ e3
  subst e2 e3
  obtain ⟨ad, e4, hcell⟩ := Kd.at_string hC k hk.1 hk.2
  injection e4 with e4
  subst e4
  obtain ⟨n, rfl⟩ : ∃ n : Nat, k = (n : Int) := ⟨k.toNat, by omega⟩
  rw [Int.toNat_natCast] at hcell ⊢
  have c1 := H.c1
  have h0 : (0 ≤ (n : Int)) = True := eq_true hk.1
  have h1 : n < bs.length := by omega
  have hx : (rdOf ByteArray.empty bs (n : Int)).size ≤ 256 := by
    refine H.box _ ?_
    simp [rdOf, List.getD, h1]
  have hfz : w.frozen? ⟨b, n, none⟩ = false := by simp [World.frozen?, hcl]
  have hcell' : w.cell? ⟨b, n, none⟩ = some (.string (rdOf ByteArray.empty bs (n : Int))) := by rwa [add_zero_at] at hcell
  clear hcell
  generalize hxx : rdOf ByteArray.empty bs (n : Int) = x at *
  by_cases hl : (s.size : Int) > 256 - (x.size : Int)
  · rw [if_pos hl]
    have hd : decide ((s.size : Int) > 256 - (x.size : Int)) = true := by simpa using hl
    have hw : wrap64 (256 - (x.size : Int)) = 256 - (x.size : Int) := by unfold wrap64; omega
    clear H hC hl hx
    go_enter Try.func30, Try.ntmps30
    go_wp2_with fail
    refine (hall_Has w0 w g _ m bs n HH.out).mono ?_
    rintro e w1 ⟨rfl, nd, rfl⟩
    rw [hf]
    go_wp2
    go_ret
    exact ⟨_, rfl, HH.out.drewN _, Steps.drewN _ _ _ _⟩
  · rw [if_neg hl]
    have hd : decide ((s.size : Int) > 256 - (x.size : Int)) = false := by simpa using hl
    have hw : wrap64 (256 - (x.size : Int)) = 256 - (x.size : Int) := by unfold wrap64; omega
    have hxs : (x ++ s).size ≤ 256 := by rw [ByteArray.size_append]; omega
    have HXS := Lib.hid hxs
    have hsum : x.size + s.size ≤ 9223372036854775807 := by omega
    clear H hC hl hx hxs
    go_enter Try.func30, Try.ntmps30
    go_wp2_with fail
    refine (hall_Has w0 w g _ m bs n HH.out).mono ?_
    rintro e w1 ⟨rfl, nd, rfl⟩
    rw [hf]
    go_wp2
    go_ret
    obtain ⟨q1, q2⟩ := hall_set (HH.out.drewN nd) (n : Int) (x ++ s) HXS.out
    rw [Int.toNat_natCast] at q1 q2
    exact ⟨_, rfl, q1, ⟨q2.size, q2.keep, q2.new⟩⟩

theorem next_rest (s : ByteArray) : (nextV s).2.2.1.size ≤ s.size := by
  unfold nextV nextF
  rw [if_neg (by decide)]
  by_cases h2 : (s.size : Int) < 2
  · rw [if_pos h2]; exact Nat.le_refl _
  rw [if_neg h2]
  by_cases h3 : nx s = 0 ∨ nx s > 64
  · rw [if_pos h3]; exact Nat.zero_le _
  rw [if_neg h3]
  by_cases h4 : nx s > (s.size : Int) - 2
  · rw [if_pos h4]; exact Nat.le_refl _
  rw [if_neg h4]
  show (s.extract (2 + (nx s).toNat) s.size).size ≤ _
  rw [ByteArray.size_extract]
  omega
theorem box_le {bs : List ByteArray} (h : ∀ b ∈ bs, b.size ≤ 256) (k : Int) : (boxF bs k).size ≤ 256 := by
  unfold boxF
  by_cases hk : 0 ≤ k ∧ k < (bs.length : Int)
  · rw [if_pos hk]
    refine h _ ?_
    have : k.toNat < bs.length := by omega
    simp [rdOf, List.getD, this]
  · rw [if_neg hk]
    decide
def takeF (bs : List ByteArray) (k : Int) : Int × ByteArray × List ByteArray :=
  ((nextV (boxF bs k)).1, (nextV (boxF bs k)).2.1, if 0 ≤ k ∧ k < (bs.length : Int) then bs.set k.toNat (nextV (boxF bs k)).2.2.1 else bs)

set_option maxHeartbeats 4000000 in
set_option maxRecDepth 100000 in
theorem hall_Take (w0 w : World) (g : Nat) (v : Value) (m : Int) (bs : List ByteArray) (k : Int) (H : HallIs 72 w0 w g v m bs) :
    Calls Try.prog 31 #[.pointer (some ⟨g, 0, none⟩), .int .i64 k] w fun e w' => ∃ v', e = .returned (.tuple #[.int .i64 (takeF bs k).1, .string (takeF bs k).2.1]) ∧ HallIs 72 w0 w' g v' m (takeF bs k).2.2 ∧ Steps w w' g v v' := by
  have HH := Lib.hid H
  unfold takeF
  have hrest := Nat.le_trans (next_rest (boxF bs k)) (box_le H.box k)
  obtain ⟨p, hp⟩ : ∃ p, nextV (boxF bs k) = p := ⟨_, rfl⟩
  rw [hp] at hrest ⊢
  by_cases hk : 0 ≤ k ∧ k < (bs.length : Int)
  case neg =>
    rw [if_neg hk]
    have hf : hasF bs k = false := by
      rw [← Bool.not_eq_true, hasF, Bool.and_eq_true, decide_eq_true_eq, decide_eq_true_eq]
      exact hk
    clear H hk
    go_enter Try.func31, Try.ntmps31
    go_wp2_with fail
    refine (hall_front w0 w g v m bs k HH.out).mono ?_
    rintro e w1 ⟨rfl, nd, rfl⟩
    rw [hp]
    go_wp2_with fail
    refine (hall_Has w0 _ g v m bs k (HH.out.drewN nd)).mono ?_
    rintro e w1 ⟨rfl, nd2, rfl⟩
    rw [hf]
    go_wp2
    go_ret2
    exact ⟨_, rfl, HH.out.drewN _, Steps.drewN _ _ _ _⟩
  have hf : hasF bs k = true := by
    rw [hasF, Bool.and_eq_true, decide_eq_true_eq, decide_eq_true_eq]
    exact hk
  rw [if_pos hk]
  obtain ⟨b, c, rfl, hgb, hbl, cl, hcl⟩ := row_form H.own (by omega)
  obtain ⟨A2, c2, e2, hc, hC⟩ := Kd.R_reads H.own
  injection e2 with e2 _ e3
  subst e2 e3
  obtain ⟨ad, e4, hcell⟩ := Kd.at_string hC k hk.1 hk.2
  injection e4 with e4
  subst e4
  obtain ⟨n, rfl⟩ : ∃ n : Nat, k = (n : Int) := ⟨k.toNat, by omega⟩
  rw [Int.toNat_natCast] at hcell ⊢
  have c1 := H.c1
  have h0 : (0 ≤ (n : Int)) = True := eq_true hk.1
  have h1 : n < bs.length := by omega
  have hfz : w.frozen? ⟨b, n, none⟩ = false := by simp [World.frozen?, hcl]
  have hcell' : w.cell? ⟨b, n, none⟩ = some (.string (rdOf ByteArray.empty bs (n : Int))) := by rwa [add_zero_at] at hcell
  clear hcell H hC
  generalize rdOf ByteArray.empty bs (n : Int) = x at *
  go_enter Try.func31, Try.ntmps31
  go_wp2_with fail
  refine (hall_front w0 w g _ m bs n HH.out).mono ?_
  rintro e w1 ⟨rfl, nd, rfl⟩
  rw [hp]
  go_wp2_with fail
  refine (hall_Has w0 _ g _ m bs n (HH.out.drewN nd)).mono ?_
  rintro e w1 ⟨rfl, nd2, rfl⟩
  rw [hf]
  go_wp2
  go_ret2
  obtain ⟨q1, q2⟩ := hall_set (HH.out.drewN (nd + nd2)) (n : Int) p.2.2.1 hrest
  rw [Int.toNat_natCast] at q1 q2
  exact ⟨_, rfl, q1, ⟨q2.size, q2.keep, q2.new⟩⟩
end Go.Proofs.Ytildlbmhdiknfaa.Man
