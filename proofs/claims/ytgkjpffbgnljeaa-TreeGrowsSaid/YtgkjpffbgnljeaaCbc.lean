/- Texts of this claim laid together: TreeZf. -/
import Derived.Test.YtgkjpffbgnljeaaCbb
/- tollbarlaw17.awake in the printed form: its answers, plain. -/
set_option linter.unusedVariables false
set_option linter.unusedSimpArgs false
namespace Go.Proofs.Ytgkjpffbgnljeaa.Man
open Go.RowKit Go.Proofs.Ytgkjpffbgnljeaa.QT Go.Proofs.Ytgkjpffbgnljeaa.TreeM Go.Proofs.YtgkjpffbgnljeaaW.PrintWords Go.Proofs.YtgkjpffbgnljeaaW.PrintLast Go.Proofs.YtgkjpffbgnljeaaW.PrintMore
theorem insf_of {ns : List Nd} {root : Int} {fr : List Int} {a b c : Int} {n' : List Nd} {r' : Int} {f' : List Int} {er : Int} (hl : fr.length ≤ 32) (h : insF ns root fr ⟨a, b, c⟩ = ((n', r', f'), er)) : tree_Insert.f ns root fr a b c = some (n', r', f', er) := by
 unfold tree_Insert.f; rw [if_pos (by omega), h]
theorem delf_of {ns : List Nd} {root : Int} {fr : List Int} {a b c : Int} {n' : List Nd} {r' : Int} {f' : List Int} {er : Int} (hl : fr.length ≤ 32) (h : delF ns root fr ⟨a, b, c⟩ = ((n', r', f'), er)) : tree_Delete.f ns root fr a b c = some (n', r', f', er) := by
 unfold tree_Delete.f; rw [if_pos (by omega), h]
theorem itemsf_of {ns : List Nd} {root : Int} {fr : List Int} {t : T} (h : IsT (cellN ns) ns.length root fr t) : tree_Items.f ns root fr = some ((items t).map toI, 0) := by
 unfold tree_Items.f; rw [if_pos (by have := h.free_le; omega), itemsF_yes h]
theorem mayf_of {ns : List Nd} {root : Int} {fr : List Int} {t : T} (h : IsT (cellN ns) ns.length root fr t) : tree_May.f ns root fr = some true := by
 unfold tree_May.f; rw [if_pos (by have := h.free_le; omega), mayT_true.2 ⟨t, h⟩]
theorem meetsf_of {ns : List Nd} {root : Int} {fr : List Int} {s0 s1 : Int} {t : T} (h : IsT (cellN ns) ns.length root fr t) (hs : mayF s0 s1 = true) : tree_Meets.f ns root fr s0 s1 = some ((meetsT s0 s1 t).map toI, 0) := by
 unfold tree_Meets.f; rw [if_pos (by have := h.free_le; omega), meetsF_yes h hs]
theorem pointsf_of {ns : List Nd} {root : Int} {fr : List Int} {s0 s1 : Int} {t : T} (h : IsT (cellN ns) ns.length root fr t) (hs : mayF s0 s1 = true) : tree_Points.f ns root fr s0 s1 = some (pointsF1 s0 s1 (meetsT s0 s1 t), 0) := by
 unfold tree_Points.f; rw [if_pos (by have := h.free_le; omega), pointsF_yes h hs]
theorem not_empty (t : T) : ¬ IsT (cellN []) ([] : List Nd).length 0 [] t := by
 intro h
 have hh := h.good.hang
 have hw := h.good.within
 cases t with
 | nil => exact absurd (show (0 : Int) = -1 from hh) (by decide)
 | node p x l r => exact absurd hw.p (Nat.not_lt_zero _)
def tollbarlaw17_awake.f : Option Bool := some true
theorem tollbarlaw17_awake.calls (r : Bool) (w : World) (h : tollbarlaw17_awake.f = some r) : Calls Try.prog 18 #[] w fun e w' => e = .returned (.bool r) ∧ Below w.heap.size w w' := by
 have hr : true = r := by simpa [tollbarlaw17_awake.f] using h
 subst hr
 clear h
 obtain ⟨n1, r1, f1, E1, T1⟩ := ins_step (x := ⟨5, 9, 1⟩) isT_new (by decide) (by decide) (by decide)
 have i1 : items (put .nil ⟨5, 9, 1⟩ (placeOf ([] : List Nd).length [])) = [⟨5, 9, 1⟩] := rfl
 generalize put .nil ⟨5, 9, 1⟩ (placeOf ([] : List Nd).length []) = t1 at T1 i1
 obtain ⟨n2, r2, f2, E2, T2⟩ := ins_step (x := ⟨2, 6, 2⟩) T1 (by decide) (by rw [i1]; decide) (by rw [i1]; decide)
 have i2 : items (put t1 ⟨2, 6, 2⟩ (placeOf n1.length f1)) = [⟨2, 6, 2⟩, ⟨5, 9, 1⟩] := by
  rw [ins_items T1.row, i1]
  rfl
 generalize put t1 ⟨2, 6, 2⟩ (placeOf n1.length f1) = t2 at T2 i2
 obtain ⟨n3, r3, f3, E7, T3⟩ := del_step (x := ⟨5, 9, 1⟩) T2 (by rw [i2]; decide)
 have i3 : items (TreeM.drop t2 ⟨5, 9, 1⟩) = [⟨2, 6, 2⟩] := by
  rw [items_drop _ _ T2.row (by rw [i2]; decide), i2]
  rfl
 generalize TreeM.drop t2 ⟨5, 9, 1⟩ = t3 at T3 i3
 have m2 : (meetsT 7 8 t2).map toI = [⟨⟨5, 9⟩, 1⟩] := by unfold meetsT; rw [i2]; rfl
 have p2 : pointsF1 0 9 (meetsT 0 9 t2) = [2, 5, 6] := by
  unfold meetsT
  rw [i2, show List.filter (meetF 0 9) [(⟨2, 6, 2⟩ : Itm), ⟨5, 9, 1⟩] = [⟨2, 6, 2⟩, ⟨5, 9, 1⟩] from rfl]
  have e : ptsOf 0 9 [(⟨2, 6, 2⟩ : Itm), ⟨5, 9, 1⟩] = [2, 6, 5] := rfl
  unfold pointsF1
  rw [e]
  have e2 : sortF [2, 6, 5] = [2, 5, 6] := by simp [sortF, List.mergeSort, List.MergeSort.Internal.splitInTwo]
  rw [e2]
  rfl
 have fl1 := T1.free_le
 have fl2 := T2.free_le
 have fl3 := T3.free_le
 exact awake17 n1 n2 n3 r1 r2 r3 f1 f2 f3 (insf_of (by decide) E1) (insf_of fl1 E2) (by rw [itemsf_of T2, i2]; rfl) (by rw [meetsf_of T2 (by decide), m2]) (by rw [pointsf_of T2 (by decide), p2])
  (insf_of fl2 (insF_there T2 (by decide) (by rw [i2]; decide))) (delf_of fl2 E7) (by rw [itemsf_of T3, i3]; rfl) (delf_of fl3 (delF_none T3 (by rw [i3]; decide))) (mayf_of T2)
  (by unfold tree_May.f; rw [if_pos (by decide), mayT_false.2 not_empty]) w
end Go.Proofs.Ytgkjpffbgnljeaa.Man
