/- The hall and the document's hall: what a pointer to one stands for, and their functions. -/
import Derived.Test.YtildlbmhdiknfaaNext
import Derived.Test.YtildlbmhdiknfaaWRepsOne
import Derived.Test.YtildlbmhdiknfaaWAt
import Derived.Deep.OwnRows
set_option linter.unusedVariables false
namespace Go.Proofs.Ytildlbmhdiknfaa.Man
open Go.RowKit Go.Proofs.YtildlbmhdiknfaaW.PrintWords Go.Proofs.YtildlbmhdiknfaaW.PrintLast Go.Proofs.YtildlbmhdiknfaaW.PrintMore

theorem infoS : (Try.prog.info? 9).map (fun i => (i.zero, i.size, i.bytes)) = some (some (.string ByteArray.empty), 1, 16) := by kernel_rfl
/-- A hall at block g (its type t): how many there may be at most, the inboxes as they lie at v. -/
structure HallIs (t : Nat) (w0 w : World) (g : Nat) (v : Value) (m : Int) (bs : List ByteArray) : Prop where
  cells : w.heap[g]? = some (.cells #[.int .i64 m, v] t (0, 0))
  own : Kd.R Kd.string 9 w w0.heap.size (fun _ => True) v bs
  ge : w0.heap.size ≤ g
  ne : v.ownBlock ≠ some g
  below : Below w0.heap.size w0 w
  most : m ≤ 4
  len : (bs.length : Int) ≤ 4
  box : ∀ b ∈ bs, b.size ≤ 256
/-- What a step at hall g leaves as it was. -/
structure Steps (w w' : World) (g : Nat) (v v' : Value) : Prop where
  size : w.heap.size ≤ w'.heap.size
  keep : ∀ k, k < w.heap.size → k ≠ g → some k ≠ v.ownBlock → w'.heap[k]? = w.heap[k]?
  new : v'.ownBlock = v.ownBlock ∨ ∃ b, v'.ownBlock = some b ∧ w.heap.size ≤ b

theorem string_ok {e base : Nat} {w : World} {ok ok' : Nat → Prop} {v : Value} {xs : List ByteArray} (h : Kd.R Kd.string e w base ok v xs) (hv : ∀ k, v.ownBlock = some k → ok' k) : Kd.R Kd.string e w base ok' v xs :=
  ⟨hv, h.2.imp_ (fun _ _ hp => hp)⟩
theorem HallIs.lt {t : Nat} {w0 w : World} {g : Nat} {v : Value} {m : Int} {bs : List ByteArray} (h : HallIs t w0 w g v m bs) : g < w.heap.size := by
  obtain ⟨hlt, _⟩ := Array.getElem?_eq_some_iff.1 h.cells
  exact hlt
theorem HallIs.c0 {t : Nat} {w0 w : World} {g : Nat} {v : Value} {m : Int} {bs : List ByteArray} (h : HallIs t w0 w g v m bs) : w.cell? ⟨g, 0, none⟩ = some (.int .i64 m) := by simp [World.cell?, h.cells]
theorem HallIs.c1 {t : Nat} {w0 w : World} {g : Nat} {v : Value} {m : Int} {bs : List ByteArray} (h : HallIs t w0 w g v m bs) : w.cell? ⟨g, 1, none⟩ = some v := by simp [World.cell?, h.cells]
theorem HallIs.f1 {t : Nat} {w0 w : World} {g : Nat} {v : Value} {m : Int} {bs : List ByteArray} (h : HallIs t w0 w g v m bs) : w.frozen? ⟨g, 1, none⟩ = false := by simp [World.frozen?, h.cells]
/-- A step at another hall leaves this one. -/
theorem HallIs.apart {t : Nat} {w0 w w' : World} {g r : Nat} {v v1 v2 : Value} {m : Int} {bs : List ByteArray} (h : HallIs t w0 w r v2 m bs) (hs : Steps w w' g v v1) (hb : Below w0.heap.size w0 w') (h1 : r ≠ g) (h2 : some r ≠ v.ownBlock) (h3 : v2.ownBlock ≠ some g) (h4 : ∀ k, v2.ownBlock = some k → some k ≠ v.ownBlock) : HallIs t w0 w' r v2 m bs := by
  refine ⟨(hs.keep r h.lt h1 h2).trans h.cells, ?_, h.ge, h.ne, hb, h.most, h.len, h.box⟩
  have ho := string_ok (ok' := fun k => v2.ownBlock = some k) h.own (fun k hk => hk)
  have := Kd.R_step ho (fun k hk hlt => hs.keep k hlt (fun e => h3 (by rw [hk, e])) (h4 k hk))
  exact string_ok this (fun _ _ => trivial)

theorem HallIs.drewN {t : Nat} {w0 w : World} {g : Nat} {v : Value} {m : Int} {bs : List ByteArray} (h : HallIs t w0 w g v m bs) (n : Nat) : HallIs t w0 (w.drewN n) g v m bs :=
  ⟨h.cells, Kd.R_drewN h.own n, h.ge, h.ne, ⟨h.below.os, h.below.tape, h.below.output, h.below.size, h.below.block⟩, h.most, h.len, h.box⟩
theorem Steps.refl (w : World) (g : Nat) (v : Value) : Steps w w g v v := ⟨Nat.le_refl _, fun _ _ _ _ => rfl, Or.inl rfl⟩
theorem Steps.drewN (w : World) (g : Nat) (v : Value) (n : Nat) : Steps w (w.drewN n) g v v := ⟨Nat.le_refl _, fun _ _ _ _ => rfl, Or.inl rfl⟩

theorem hall_stored {t : Nat} {w0 w w1 : World} {g : Nat} {v v1 : Value} {m : Int} {bs bs' : List ByteArray} (H : HallIs t w0 w g v m bs) (ho : Kd.R Kd.string 9 w1 w0.heap.size (fun _ => True) v1 bs') (hb : Below w0.heap.size w0 w1) (hs : w.heap.size ≤ w1.heap.size)
    (hk : ∀ k, k < w.heap.size → some k ≠ v.ownBlock → w1.heap[k]? = w.heap[k]?) (hat : v1.ownBlock = v.ownBlock ∨ ∃ b, v1.ownBlock = some b ∧ w.heap.size ≤ b) (hlen : (bs'.length : Int) ≤ 4) (hbox : ∀ b ∈ bs', b.size ≤ 256) :
    HallIs t w0 (w1.setCell ⟨g, 1, none⟩ v1) g v1 m bs' ∧ Steps w (w1.setCell ⟨g, 1, none⟩ v1) g v v1 := by
  have hlt := H.lt
  have hne : v1.ownBlock ≠ some g := by
    rcases hat with h | ⟨b, h, hle⟩
    · rw [h]; exact H.ne
    · rw [h]
      intro e
      injection e with e
      omega
  have hc : w1.heap[g]? = some (.cells #[.int .i64 m, v] t (0, 0)) := (hk g hlt (fun e => H.ne e.symm)).trans H.cells
  refine ⟨⟨?_, ?_, H.ge, hne, hb.setCell (p := ⟨g, 1, none⟩) H.ge _, H.most, hlen, hbox⟩, ⟨?_, fun k h1 h2 h3 => ?_, hat⟩⟩
  · simp [World.setCell, Array.getElem?_modify, hc]
  · have h1 := string_ok (ok' := fun k => v1.ownBlock = some k) ho (fun k hk => hk)
    exact string_ok (Kd.R_far h1 (p := ⟨g, 1, none⟩) (fun k hk e => hne (by rw [hk, e])) v1) (fun _ _ => trivial)
  · rw [Deep.nblk_setCell]
    exact hs
  · rw [Below.heap_setCell _ _ _ _ h2]
    exact hk k h1 h3

/-! ### The plain hall -/
def openF (m : Int) (bs : List ByteArray) : Int × Int × List ByteArray := if (bs.length : Int) ≥ m then (0, 2702, bs) else ((bs.length : Int), 0, bs ++ [ByteArray.empty])
def boxF (bs : List ByteArray) (k : Int) : ByteArray := if 0 ≤ k ∧ k < (bs.length : Int) then rdOf ByteArray.empty bs k else ByteArray.empty
def inputF (bs : List ByteArray) (k : Int) (s : ByteArray) : Int × List ByteArray :=
  if 0 ≤ k ∧ k < (bs.length : Int) then if (s.size : Int) > 256 - ((rdOf ByteArray.empty bs k).size : Int) then (2703, bs) else (0, bs.set k.toNat (rdOf ByteArray.empty bs k ++ s)) else (2701, bs)

set_option maxHeartbeats 4000000 in
set_option maxRecDepth 100000 in
theorem hall_Open (w0 w : World) (g : Nat) (v : Value) (m : Int) (bs : List ByteArray) (H : HallIs 72 w0 w g v m bs) :
    Calls Try.prog 29 #[.pointer (some ⟨g, 0, none⟩)] w fun e w' => ∃ v', e = .returned (.tuple #[.int .i64 (openF m bs).1, .int .i64 (openF m bs).2.1]) ∧ HallIs 72 w0 w' g v' m (openF m bs).2.2 ∧ Steps w w' g v v' := by
  have c0 := H.c0
  have c1 := H.c1
  have f1 := H.f1
  obtain ⟨A, c, rfl⟩ := Kd.R_slice H.own
  have HH := Lib.hid H
  clear H
  by_cases hl : (bs.length : Int) ≥ m
  · have hd : decide ((bs.length : Int) ≥ m) = true := by simpa using hl
    rw [openF, if_pos hl]
    clear hl
    go_enter Try.func29, Try.ntmps29
    go_wp2
    go_quiet (fail)
    go_wp2
    go_ret2
    exact ⟨_, rfl, HH.out.drewN _, Steps.drewN _ _ _ _⟩
  · have hd : decide ((bs.length : Int) ≥ m) = false := by simpa using hl
    rw [openF, if_neg hl]
    clear hl
    go_enter Try.func29, Try.ntmps29
    go_wp2
    go_quiet (fail)
    have hO := HH.out.drewN nq
    have HOW := Lib.hid hO.own
    have HBW := Lib.hid hO.below
    have HCW := Lib.hid hO.cells
    have HNE := Lib.hid hO.ne
    have HLT := Lib.hid hO.lt
    have HLN : Hid ((bs.length + 1) * 16 ≤ 140737488355328) := Lib.hid (by have := hO.len; omega)
    have HLN2 : Hid (m ≤ 4 ∧ (bs.length : Int) < m) := Lib.hid ⟨hO.most, by simpa using hd⟩
    clear hO
    go_wp2_with (first | ((with_reducible refine gate_builtin (b := .append) (xs := #[.tmp 18, .tmp 19]) rfl ?_); at_builtin; refine Kd.R_append Kd.string (w0 := w0) w0.heap.size rfl (.tmp 18) (.tmp 19) 22 9 (.string ByteArray.empty) 16 rfl Try.underlying22 infoS rfl (by decide) (by omega) _ bs ⟨#[]⟩ [.string ⟨#[]⟩] (fun _ => True) (fun _ => False) rfl rfl ?aP (fun _ hk => hk.elim) ?aF ?aO ?aB ?aS ?aL ?_; (case aP => exact rfl); (case aF => exact (fun _ _ => trivial)); (case aO => exact HOW.out); (case aB => exact HBW.out); (case aS => exact HBW.out.size); (case aL => exact HLN.out); intro v1 w1 ho1 hb1 hg1 hat1; obtain ⟨A1, k1, rfl⟩ := Kd.R_slice ho1; have hgc : w1.heap[g]? = some (.cells #[.int .i64 m, .slice A bs.length c] 72 (0, 0)) := (hg1.block g HLT.out (fun e => HNE.out e.symm)).trans HCW.out; have d1 : w1.cell? ⟨g, 1, none⟩ = some (.slice A bs.length c) := by { simp [World.cell?, hgc] }; have e1 : w1.frozen? ⟨g, 1, none⟩ = false := by { simp [World.frozen?, hgc] }; have HO1 := Lib.hid ho1; have HB1 := Lib.hid hb1; have HG1 := Lib.hid hg1; have HA1 := Lib.hid hat1; have HC1 := Lib.hid hgc; clear ho1 hb1 hg1 hat1 hgc))
    have hw : wrap64 (bs.length : Int) = (bs.length : Int) := by
      have := HLN2.out
      unfold wrap64
      omega
    go_wp2
    rw [hw]
    go_ret2
    obtain ⟨h1, h2⟩ := hall_stored (HH.out.drewN nq) HO1.out HB1.out HG1.out.size (fun k h1 h2 => HG1.out.block k h1 h2) HA1.out (by have := HLN2.out; simp; omega) (fun b hb => by
      rcases List.mem_append.1 hb with h | h
      · exact HH.out.box b h
      · rw [List.mem_singleton.1 h]
        decide)
    have el : (bs ++ [(⟨#[]⟩ : ByteArray)]).length = bs.length + 1 := by simp
    rw [el] at h1 h2
    exact ⟨_, rfl, h1, ⟨h2.size, h2.keep, h2.new⟩⟩
end Go.Proofs.Ytildlbmhdiknfaa.Man
