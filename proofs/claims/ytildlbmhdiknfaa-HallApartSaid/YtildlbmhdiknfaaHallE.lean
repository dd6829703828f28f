/- The document's hall: Open, which makes a new row of inboxes. -/
import Derived.Test.YtildlbmhdiknfaaHallD
set_option linter.unusedVariables false
namespace Go.Proofs.Ytildlbmhdiknfaa.Man
open Go.RowKit Go.Proofs.YtildlbmhdiknfaaW.PrintWords Go.Proofs.YtildlbmhdiknfaaW.PrintLast Go.Proofs.YtildlbmhdiknfaaW.PrintMore

theorem two_grown' {W w1 w2 : World} {o : Obj} {v1 v2 : Value} (H c : Nat) (hH : W.heap.size = H) (h1 : (W.alloc o).grownBy w1 (Value.slice (some ⟨H, 0, none⟩) 0 c).ownBlock) (a1 : v1.ownBlock = (Value.slice (some ⟨H, 0, none⟩) 0 c).ownBlock ∨ ∃ b, v1.ownBlock = some b ∧ (W.alloc o).heap.size ≤ b)
    (h2 : w1.grownBy w2 v1.ownBlock) (a2 : v2.ownBlock = v1.ownBlock ∨ ∃ b, v2.ownBlock = some b ∧ w1.heap.size ≤ b) : (∀ k, k < W.heap.size → w2.heap[k]? = W.heap[k]?) ∧ W.heap.size ≤ w2.heap.size ∧ ∃ b, v2.ownBlock = some b ∧ W.heap.size ≤ b := by
  subst hH
  exact two_grown (x := .bool true) h1 a1 h2 a2

set_option maxHeartbeats 4000000 in
set_option maxRecDepth 100000 in
theorem doc_Open (w0 w : World) (g : Nat) (v : Value) (m : Int) (bs : List ByteArray) (H : HallIs 48 w0 w g v m bs) :
    Calls Try.prog 35 #[.pointer (some ⟨g, 0, none⟩)] w fun e w' => ∃ v', e = .returned (.tuple #[.int .i64 (openF m bs).1, .int .i64 (openF m bs).2.1]) ∧ HallIs 48 w0 w' g v' m (openF m bs).2.2 ∧ Steps w w' g v v' := by
  have c0 := H.c0
  have c1 := H.c1
  have f1 := H.f1
  obtain ⟨A, c, rfl⟩ := Kd.R_slice H.own
  have HH := Lib.hid H
  clear H
  by_cases hl : (bs.length : Int) ≥ m
  · have hd : decide ((bs.length : Int) ≥ m) = true := by simpa using hl
    rw [openF, if_pos hl]
    clear hl
    go_enter Try.func35, Try.ntmps35
    go_wp2
    go_quiet (fail)
    go_wp2
    go_ret2
    exact ⟨_, rfl, HH.out.drewN _, Steps.drewN _ _ _ _⟩
  · have hd : decide ((bs.length : Int) ≥ m) = false := by simpa using hl
    rw [openF, if_neg hl]
    clear hl
    go_enter Try.func35, Try.ntmps35
    go_wp2
    go_quiet (fail)
    have hO := HH.out.drewN nq
    have HOW := Lib.hid hO.own
    have HBW := Lib.hid hO.below
    have HCW := Lib.hid hO.cells
    have HNE := Lib.hid hO.ne
    have HLT := Lib.hid hO.lt
    have HLN2 : Hid (m ≤ 4 ∧ (bs.length : Int) < m) := Lib.hid ⟨hO.most, by simpa using hd⟩
    clear hO
    have hcA : ∀ o : Obj, ((w.drewN nq).alloc o).cell? ⟨g, 1, none⟩ = some (.slice A bs.length c) := fun o => (World.cell?_alloc_lt _ _ _ HLT.out).trans c1
    have HL0 : Hid (Kd.R Kd.string 9 ((w.drewN nq).alloc (.cells #[] 9)) w0.heap.size (fun _ => True) (.slice (some ⟨w.heap.size, 0, none⟩) 0 0) []) := by
      refine Lib.hid ⟨fun _ _ => trivial, [], ?_, Reps.none _ _⟩
      exact World.ownsRow_lit (base := w0.heap.size) (e := 9) (size := 1) (w.drewN nq) #[] 0 HBW.out.size (by decide) (by simp)
    have HB0 : Hid (Below w0.heap.size w0 ((w.drewN nq).alloc (.cells #[] 9))) := Lib.hid (HBW.out.alloc HBW.out.size _)
    have HCr : Hid (Kd.C Kd.string ((w.drewN nq).alloc (.cells #[] 9)) A bs.length bs) := by
      obtain ⟨A2, c2, e2, hc, hC⟩ := Kd.R_reads (Kd.R_alloc HOW.out (.cells #[] 9))
      injection e2 with e2 _ e3
      subst e2 e3
      exact Lib.hid hC
    have HLN : Hid ((([] : List ByteArray).length + bs.length) * 16 ≤ 140737488355328) := Lib.hid (by have := HLN2.out; simp; omega)
    have HLM : Hid ((bs.length + 1) * 16 ≤ 140737488355328) := Lib.hid (by have := HLN2.out; omega)
    go_wp2_with (first | ((with_reducible refine gate_builtin (b := .append) (xs := #[.tmp 15, .tmp 19]) rfl ?_); at_builtin; refine Kd.R_append_rows Kd.string (w0 := w0) w0.heap.size rfl (.tmp 15) (.tmp 19) 22 9 (.string ByteArray.empty) 16 rfl Try.underlying22 infoS rfl (by decide) (by omega) (.slice (some ⟨w.heap.size, 0, none⟩) 0 0) [] bs A bs.length c (fun _ => True) (fun _ => False) rfl rfl ?aO ?aR (fun _ _ h => h) (fun _ h => h.elim) ?aF ?aB ?aS ?aL ?_; (case aO => exact HL0.out); (case aR => exact HCr.out); (case aF => exact (fun _ _ => trivial)); (case aB => exact HB0.out); (case aS => exact HB0.out.size); (case aL => exact HLN.out); intro v1 w1 ho1 hb1 hg1 hat1; simp only [List.nil_append] at ho1; obtain ⟨A0_, k0_, rfl⟩ := Kd.R_slice ho1; have HO1 := Lib.hid ho1; have HB1 := Lib.hid hb1; have HG1 := Lib.hid hg1; have HA1 := Lib.hid hat1; clear ho1 hb1 hg1 hat1) | ((with_reducible refine gate_builtin (b := .append) (xs := #[.tmp 20, .tmp 21]) rfl ?_); at_builtin; refine Kd.R_append Kd.string (w0 := w0) w0.heap.size rfl (.tmp 20) (.tmp 21) 22 9 (.string ByteArray.empty) 16 rfl Try.underlying22 infoS rfl (by decide) (by omega) (.slice A0_ bs.length k0_) bs ⟨#[]⟩ [.string ⟨#[]⟩] (fun _ => True) (fun _ => False) rfl rfl ?aP (fun _ hk => hk.elim) ?aF ?aO ?aB ?aS ?aL ?_; (case aP => exact rfl); (case aF => exact (fun _ _ => trivial)); (case aO => exact HO1.out); (case aB => exact HB1.out); (case aS => exact HB1.out.size); (case aL => exact HLM.out); intro v2 w2 ho2 hb2 hg2 hat2; have hkk := two_grown' (W := w.drewN nq) w.heap.size 0 rfl HG1.out HA1.out hg2 hat2; obtain ⟨A1, k1, rfl⟩ := Kd.R_slice ho2; have hgc : w2.heap[g]? = some (.cells #[.int .i64 m, .slice A bs.length c] 48 (0, 0)) := (hkk.1 g HLT.out).trans HCW.out; have d1 : w2.cell? ⟨g, 1, none⟩ = some (.slice A bs.length c) := by { simp [World.cell?, hgc] }; have e1 : w2.frozen? ⟨g, 1, none⟩ = false := by { simp [World.frozen?, hgc] }; have HKK := Lib.hid hkk; clear hkk hgc; have HO2 := Lib.hid ho2; have HB2 := Lib.hid hb2; have HG2 := Lib.hid hg2; have HA2 := Lib.hid hat2; clear ho2 hb2 hg2 hat2))
    have hw : wrap64 (bs.length : Int) = (bs.length : Int) := by
      have := HLN2.out
      unfold wrap64
      omega
    go_wp2
    rw [hw]
    go_ret2
    obtain ⟨h1, h2⟩ := hall_stored (HH.out.drewN nq) HO2.out HB2.out HKK.out.2.1 (fun k h1 _ => HKK.out.1 k h1) (Or.inr HKK.out.2.2) (by have := HLN2.out; simp; omega) (fun b hb => by
      rcases List.mem_append.1 hb with h | h
      · exact HH.out.box b h
      · rw [List.mem_singleton.1 h]
        decide)
    have el : (bs ++ [(⟨#[]⟩ : ByteArray)]).length = bs.length + 1 := by simp
    rw [el] at h1 h2
    exact ⟨_, rfl, h1, ⟨h2.size, h2.keep, h2.new⟩⟩
end Go.Proofs.Ytildlbmhdiknfaa.Man
