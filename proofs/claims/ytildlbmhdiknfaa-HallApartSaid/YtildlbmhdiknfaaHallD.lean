/- The document's hall: its functions, with the same plain functions. -/
import Derived.Test.YtildlbmhdiknfaaHallW
set_option linter.unusedVariables false
namespace Go.Proofs.Ytildlbmhdiknfaa.Man
open Go.RowKit Go.Proofs.YtildlbmhdiknfaaW.PrintWords Go.Proofs.YtildlbmhdiknfaaW.PrintLast Go.Proofs.YtildlbmhdiknfaaW.PrintMore

set_option maxHeartbeats 4000000 in
set_option maxRecDepth 100000 in
theorem doc_Inbox (w0 w : World) (g : Nat) (v : Value) (m : Int) (bs : List ByteArray) (k : Int) (H : HallIs 48 w0 w g v m bs) :
    Calls Try.prog 26 #[.pointer (some ⟨g, 0, none⟩), .int .i64 k] w fun e w' => e = .returned (.string (boxF bs k)) ∧ Drawn0 w w' := by
  have c1 := H.c1
  unfold boxF
  by_cases h0 : 0 ≤ k
  case neg =>
    rw [if_neg (fun h => h0 h.1)]
    have hd : decide (k < 0) = true := by simpa using h0
    obtain ⟨A, c, rfl⟩ := Kd.R_slice H.own
    clear H h0
    go_enter Try.func26, Try.ntmps26
    go_wp2
    go_ret
    exact ⟨rfl, by repeat (first | exact Drawn0.refl _ | apply Drawn0.step)⟩
  by_cases h1 : k < (bs.length : Int)
  case neg =>
    rw [if_neg (fun h => h1 h.2)]
    have hd : decide (k < 0) = false := by simpa using h0
    have hd2 : decide (k ≥ (bs.length : Int)) = true := by simpa using h1
    obtain ⟨A, c, rfl⟩ := Kd.R_slice H.own
    clear H h0
    go_enter Try.func26, Try.ntmps26
    go_wp2
    go_ret
    exact ⟨rfl, by repeat (first | exact Drawn0.refl _ | apply Drawn0.step)⟩
  rw [if_pos ⟨h0, h1⟩]
  obtain ⟨A, c, rfl, hc, hC⟩ := Kd.R_reads H.own
  obtain ⟨ad, rfl, hcell⟩ := Kd.at_string hC k h0 h1
  obtain ⟨n, rfl⟩ : ∃ n : Nat, k = (n : Int) := ⟨k.toNat, by omega⟩
  rw [Int.toNat_natCast] at hcell
  have h1' : n < bs.length := by omega
  have hd2 : decide (n ≥ bs.length) = false := by simpa using h1'
  have hd : decide ((n : Int) < 0) = false := by simp
  generalize rdOf ByteArray.empty bs (n : Int) = x at *
  clear H hC
  go_enter Try.func26, Try.ntmps26
  go_wp2
  go_ret
  exact ⟨rfl, by repeat (first | exact Drawn0.refl _ | apply Drawn0.step)⟩


theorem next_ref (x : ByteArray) (hx : x.size ≤ 256) : Hid (tollbarref22_Next.f x 64 = some ((nextV x).1, (nextV x).2.1, (nextV x).2.2.1, (nextV x).2.2.2)) := Lib.hid (by
  unfold tollbarref22_Next.f
  rw [if_pos (by omega)]
  exact next_some x)
theorem two_grown {W w1 w2 : World} {o : Obj} {v1 v2 x : Value} {c : Nat} (h1 : (W.alloc o).grownBy w1 (Value.slice (some ⟨W.heap.size, 0, none⟩) 0 c).ownBlock) (a1 : v1.ownBlock = (Value.slice (some ⟨W.heap.size, 0, none⟩) 0 c).ownBlock ∨ ∃ b, v1.ownBlock = some b ∧ (W.alloc o).heap.size ≤ b)
    (h2 : w1.grownBy w2 v1.ownBlock) (a2 : v2.ownBlock = v1.ownBlock ∨ ∃ b, v2.ownBlock = some b ∧ w1.heap.size ≤ b) : (∀ k, k < W.heap.size → w2.heap[k]? = W.heap[k]?) ∧ W.heap.size ≤ w2.heap.size ∧ ∃ b, v2.ownBlock = some b ∧ W.heap.size ≤ b := by
  have s0 : (W.alloc o).heap.size = W.heap.size + 1 := by simp
  have s1 := h1.size
  have s2 := h2.size
  have o1 : ∃ b, v1.ownBlock = some b ∧ W.heap.size ≤ b := by
    rcases a1 with h | ⟨b, h, hle⟩
    · exact ⟨W.heap.size, by rw [h]; rfl, Nat.le_refl _⟩
    · exact ⟨b, h, by omega⟩
  obtain ⟨b1, e1, l1⟩ := o1
  refine ⟨fun k hk => ?_, by omega, ?_⟩
  · rw [h2.block k (by omega) (by rw [e1]; intro e; injection e with e; omega), h1.block k (by omega) (by intro e; simp [Value.ownBlock] at e; omega)]
    exact Deep.blk_alloc_lt _ _ _ hk
  · rcases a2 with h | ⟨b, h, hle⟩
    · exact ⟨b1, by rw [h, e1], l1⟩
    · exact ⟨b, h, by omega⟩
theorem next_empty : (nextV ByteArray.empty).1 = 0 ∧ (nextV ByteArray.empty).2.1 = ⟨#[]⟩ := by decide
set_option maxHeartbeats 4000000 in
set_option maxRecDepth 100000 in
theorem doc_Ready (w0 w : World) (g : Nat) (v : Value) (m : Int) (bs : List ByteArray) (k : Int) (H : HallIs 48 w0 w g v m bs) :
    Calls Try.prog 28 #[.pointer (some ⟨g, 0, none⟩), .int .i64 k] w fun e w' => e = .returned (.bool ((nextV (boxF bs k)).1 != 0)) ∧ Drawn0 w w' := by
  have c1 := H.c1
  by_cases h0 : 0 ≤ k
  case neg =>
    have hd : decide (k < 0) = true := by simpa using h0
    rw [boxF, if_neg (fun h => h0 h.1), next_empty.1]
    obtain ⟨A, c, rfl⟩ := Kd.R_slice H.own
    clear H h0
    go_enter Try.func28, Try.ntmps28
    go_wp2
    go_ret
    exact ⟨rfl, by repeat (first | exact Drawn0.refl _ | apply Drawn0.step)⟩
  by_cases h1 : k < (bs.length : Int)
  case neg =>
    have hd : decide (k < 0) = false := by simpa using h0
    have hd2 : decide (k ≥ (bs.length : Int)) = true := by simpa using h1
    rw [boxF, if_neg (fun h => h1 h.2), next_empty.1]
    obtain ⟨A, c, rfl⟩ := Kd.R_slice H.own
    clear H h0 h1
    go_enter Try.func28, Try.ntmps28
    go_wp2
    go_ret
    exact ⟨rfl, by repeat (first | exact Drawn0.refl _ | apply Drawn0.step)⟩
  rw [boxF, if_pos ⟨h0, h1⟩]
  obtain ⟨b, c, rfl, hgb, hbl, cl, hcl⟩ := row_form H.own (by omega)
  obtain ⟨A2, c2, e2, hc, hC⟩ := Kd.R_reads H.own
  injection e2 with e2 _ e3
  subst e2 e3
  obtain ⟨ad, e4, hcell⟩ := Kd.at_string hC k h0 h1
  injection e4 with e4
  subst e4
  obtain ⟨n, rfl⟩ : ∃ n : Nat, k = (n : Int) := ⟨k.toNat, by omega⟩
  have h1' : n < bs.length := by omega
  rw [Int.toNat_natCast] at hcell
  have hfz : w.frozen? ⟨b, n, none⟩ = false := by simp [World.frozen?, hcl]
  have hcell' : w.cell? ⟨b, n, none⟩ = some (.string (rdOf ByteArray.empty bs (n : Int))) := by rwa [add_zero_at] at hcell
  have hd2 : decide (n ≥ bs.length) = false := by simpa using h1'
  have hd : decide ((n : Int) < 0) = false := by simp
  have hx : (rdOf ByteArray.empty bs (n : Int)).size ≤ 256 := by
    refine H.box _ ?_
    simp [rdOf, List.getD, h1']
  generalize rdOf ByteArray.empty bs (n : Int) = x at *
  have HN := next_ref x hx
  clear H hC hcell hx
  obtain ⟨p, hp⟩ : ∃ p, nextV x = p := ⟨_, rfl⟩
  rw [hp] at HN ⊢
  go_enter Try.func28, Try.ntmps28
  go_wp2_with fail
  refine (tollbarref22_Next.calls x 64 _ _ _ _ _ HN.out).mono ?_
  rintro e w1 ⟨rfl, nd, rfl⟩
  go_wp2
  go_ret
  exact ⟨rfl, nd, rfl⟩

set_option maxHeartbeats 4000000 in
set_option maxRecDepth 100000 in
theorem doc_Input (w0 w : World) (g : Nat) (v : Value) (m : Int) (bs : List ByteArray) (k : Int) (s : ByteArray) (H : HallIs 48 w0 w g v m bs) :
    Calls Try.prog 37 #[.pointer (some ⟨g, 0, none⟩), .int .i64 k, .string s] w fun e w' => ∃ v', e = .returned (.int .i64 (inputF bs k s).1) ∧ HallIs 48 w0 w' g v' m (inputF bs k s).2 ∧ Steps w w' g v v' := by
  have HH := Lib.hid H
  have c1 := H.c1
  by_cases h0 : 0 ≤ k
  case neg =>
    have hd : decide (k < 0) = true := by simpa using h0
    rw [inputF, if_neg (fun h => h0 h.1)]
    obtain ⟨A, c, rfl⟩ := Kd.R_slice H.own
    clear H h0
    go_enter Try.func37, Try.ntmps37
    go_wp2
    go_ret
    first | exact ⟨rfl, _, HH.out, Steps.refl _ _ _⟩ | exact ⟨_, rfl, HH.out.drewN _, Steps.drewN _ _ _ _⟩ | exact ⟨_, rfl, HH.out, Steps.refl _ _ _⟩
  by_cases h1 : k < (bs.length : Int)
  case neg =>
    have hd : decide (k < 0) = false := by simpa using h0
    have hd2 : decide (k ≥ (bs.length : Int)) = true := by simpa using h1
    rw [inputF, if_neg (fun h => h1 h.2)]
    obtain ⟨A, c, rfl⟩ := Kd.R_slice H.own
    clear H h0 h1
    go_enter Try.func37, Try.ntmps37
    go_wp2
    go_ret
    first | exact ⟨rfl, _, HH.out, Steps.refl _ _ _⟩ | exact ⟨_, rfl, HH.out.drewN _, Steps.drewN _ _ _ _⟩ | exact ⟨_, rfl, HH.out, Steps.refl _ _ _⟩
  rw [inputF, if_pos ⟨h0, h1⟩]
  obtain ⟨b, c, rfl, hgb, hbl, cl, hcl⟩ := row_form H.own (by omega)
  obtain ⟨A2, c2, e2, hc, hC⟩ := Kd.R_reads H.own
  injection e2 with e2 _ e3
  subst e2 e3
  obtain ⟨ad, e4, hcell⟩ := Kd.at_string hC k h0 h1
  injection e4 with e4
  subst e4
  obtain ⟨n, rfl⟩ : ∃ n : Nat, k = (n : Int) := ⟨k.toNat, by omega⟩
  have h1' : n < bs.length := by omega
  rw [Int.toNat_natCast] at hcell
  have hfz : w.frozen? ⟨b, n, none⟩ = false := by simp [World.frozen?, hcl]
  have hcell' : w.cell? ⟨b, n, none⟩ = some (.string (rdOf ByteArray.empty bs (n : Int))) := by rwa [add_zero_at] at hcell
  have hd2 : decide (n ≥ bs.length) = false := by simpa using h1'
  have hd : decide ((n : Int) < 0) = false := by simp
  have hx : (rdOf ByteArray.empty bs (n : Int)).size ≤ 256 := by
    refine H.box _ ?_
    simp [rdOf, List.getD, h1']
  rw [Int.toNat_natCast]
  generalize rdOf ByteArray.empty bs (n : Int) = x at *
  have hw : wrap64 (256 - (x.size : Int)) = 256 - (x.size : Int) := by unfold wrap64; omega
  by_cases hl : (s.size : Int) > 256 - (x.size : Int)
  · rw [if_pos hl]
    have hdl : decide ((s.size : Int) > 256 - (x.size : Int)) = true := by simpa using hl
    clear H hC hl hx hcell
    go_enter Try.func37, Try.ntmps37
    go_wp2
    go_ret
    first | exact ⟨rfl, _, HH.out, Steps.refl _ _ _⟩ | exact ⟨_, rfl, HH.out.drewN _, Steps.drewN _ _ _ _⟩ | exact ⟨_, rfl, HH.out, Steps.refl _ _ _⟩
  · rw [if_neg hl]
    have hdl : decide ((s.size : Int) > 256 - (x.size : Int)) = false := by simpa using hl
    have hxs : (x ++ s).size ≤ 256 := by rw [ByteArray.size_append]; omega
    have HXS := Lib.hid hxs
    have hsum : x.size + s.size ≤ 9223372036854775807 := by omega
    clear H hC hl hx hxs hcell
    go_enter Try.func37, Try.ntmps37
    go_wp2
    go_region
    go_wp2
    go_ret
    obtain ⟨q1, q2⟩ := hall_set HH.out (n : Int) (x ++ s) HXS.out
    rw [Int.toNat_natCast] at q1 q2
    exact ⟨_, rfl, q1.drewN 1, ⟨q2.size, q2.keep, q2.new⟩⟩

set_option maxHeartbeats 4000000 in
set_option maxRecDepth 100000 in
theorem doc_Take (w0 w : World) (g : Nat) (v : Value) (m : Int) (bs : List ByteArray) (k : Int) (H : HallIs 48 w0 w g v m bs) :
    Calls Try.prog 36 #[.pointer (some ⟨g, 0, none⟩), .int .i64 k] w fun e w' => ∃ v', e = .returned (.tuple #[.int .i64 (takeF bs k).1, .string (takeF bs k).2.1]) ∧ HallIs 48 w0 w' g v' m (takeF bs k).2.2 ∧ Steps w w' g v v' := by
  have HH := Lib.hid H
  have c1 := H.c1
  by_cases h0 : 0 ≤ k
  case neg =>
    have hd : decide (k < 0) = true := by simpa using h0
    rw [takeF, if_neg (fun h => h0 h.1), boxF, if_neg (fun h => h0 h.1), next_empty.1, next_empty.2]
    obtain ⟨A, c, rfl⟩ := Kd.R_slice H.own
    clear H h0
    go_enter Try.func36, Try.ntmps36
    go_wp2
    go_ret2
    first | exact ⟨rfl, _, HH.out, Steps.refl _ _ _⟩ | exact ⟨_, rfl, HH.out.drewN _, Steps.drewN _ _ _ _⟩ | exact ⟨_, rfl, HH.out, Steps.refl _ _ _⟩
  by_cases h1 : k < (bs.length : Int)
  case neg =>
    have hd : decide (k < 0) = false := by simpa using h0
    have hd2 : decide (k ≥ (bs.length : Int)) = true := by simpa using h1
    rw [takeF, if_neg (fun h => h1 h.2), boxF, if_neg (fun h => h1 h.2), next_empty.1, next_empty.2]
    obtain ⟨A, c, rfl⟩ := Kd.R_slice H.own
    clear H h0 h1
    go_enter Try.func36, Try.ntmps36
    go_wp2
    go_ret2
    first | exact ⟨rfl, _, HH.out, Steps.refl _ _ _⟩ | exact ⟨_, rfl, HH.out.drewN _, Steps.drewN _ _ _ _⟩ | exact ⟨_, rfl, HH.out, Steps.refl _ _ _⟩
  have hrest := Nat.le_trans (next_rest (boxF bs k)) (box_le H.box k)
  rw [takeF, if_pos ⟨h0, h1⟩]
  rw [boxF, if_pos ⟨h0, h1⟩] at hrest ⊢
  obtain ⟨b, c, rfl, hgb, hbl, cl, hcl⟩ := row_form H.own (by omega)
  obtain ⟨A2, c2, e2, hc, hC⟩ := Kd.R_reads H.own
  injection e2 with e2 _ e3
  subst e2 e3
  obtain ⟨ad, e4, hcell⟩ := Kd.at_string hC k h0 h1
  injection e4 with e4
  subst e4
  obtain ⟨n, rfl⟩ : ∃ n : Nat, k = (n : Int) := ⟨k.toNat, by omega⟩
  have h1' : n < bs.length := by omega
  rw [Int.toNat_natCast] at hcell
  have hfz : w.frozen? ⟨b, n, none⟩ = false := by simp [World.frozen?, hcl]
  have hcell' : w.cell? ⟨b, n, none⟩ = some (.string (rdOf ByteArray.empty bs (n : Int))) := by rwa [add_zero_at] at hcell
  have hd2 : decide (n ≥ bs.length) = false := by simpa using h1'
  have hd : decide ((n : Int) < 0) = false := by simp
  have hx : (rdOf ByteArray.empty bs (n : Int)).size ≤ 256 := by
    refine H.box _ ?_
    simp [rdOf, List.getD, h1']
  rw [Int.toNat_natCast]
  generalize rdOf ByteArray.empty bs (n : Int) = x at *
  have HN := next_ref x hx
  obtain ⟨p, hp⟩ : ∃ p, nextV x = p := ⟨_, rfl⟩
  rw [hp] at HN hrest ⊢
  clear H hC hcell hx
  go_enter Try.func36, Try.ntmps36
  go_wp2_with fail
  refine (tollbarref22_Next.calls x 64 _ _ _ _ _ HN.out).mono ?_
  rintro e w1 ⟨rfl, nd, rfl⟩
  go_wp2
  go_ret2
  obtain ⟨q1, q2⟩ := hall_set (HH.out.drewN nd) (n : Int) p.2.2.1 hrest
  rw [Int.toNat_natCast] at q1 q2
  exact ⟨_, rfl, q1, ⟨q2.size, q2.keep, q2.new⟩⟩

end Go.Proofs.Ytildlbmhdiknfaa.Man
