/- tollbarref19.only at this dump. -/
import Derived.Test.YtikblicmnfnomaaAskN
set_option linter.unusedVariables false
namespace Go.Proofs.Ytikblicmnfnomaa.Man
open Go.RowKit Go.Proofs.YtikblicmnfnomaaW.PrintWords Go.Proofs.YtikblicmnfnomaaW.PrintLast Go.Proofs.YtikblicmnfnomaaW.PrintMore
attribute [local go_sem high] eqQ
theorem heap_mid (w : World) (A B C : Obj) : (((w.alloc A).alloc B).alloc C).heap[w.heap.size + 1]? = some B := by
  rw [Deep.blk_alloc_lt _ _ _ (by simp)]
  have := Deep.blk_alloc_new (w.alloc A) B
  rwa [Deep.nblk_alloc] at this
theorem below3 (w : World) (A B C : Obj) : Below w.heap.size w (((w.alloc A).alloc B).alloc C) :=
  (((Below.refl w.heap.size w).alloc (Nat.le_refl _) _).alloc (by simp) _).alloc (by simp; omega) _

set_option maxHeartbeats 4000000 in
set_option maxRecDepth 100000 in
theorem only_1 (a b i s d r : Int) (w : World) :
    Calls Try.prog 41 #[.agg #[.int .i64 a, .int .i64 b, .int .i64 1, .int .i64 i, .int .i64 s, .int .i64 d, .int .i64 r]] w fun e w' => e = .returned (.agg #[.int .i64 a, .int .i64 b, .int .i64 1, .int .i64 0, .int .i64 s, .int .i64 d, .int .i64 r]) ∧ Below w.heap.size w w' := by
  go_enter Try.func41, Try.ntmps41
  go_wp2
  refine bodyPost_ret (results_cell_row rfl _ _ (w.heap.size + 1) 46 #[.int .i64 a, .int .i64 b, .int .i64 1, .int .i64 0, .int .i64 s, .int .i64 d, .int .i64 r] (0, 0) _ rfl (heap_mid _ _ _ _) Try.underlying46 rfl (by kernel_rfl)) rfl ?_
  exact ⟨rfl, below3 _ _ _ _⟩

set_option maxHeartbeats 4000000 in
set_option maxRecDepth 100000 in
theorem only_2 (a b i s d r : Int) (w : World) :
    Calls Try.prog 41 #[.agg #[.int .i64 a, .int .i64 b, .int .i64 2, .int .i64 i, .int .i64 s, .int .i64 d, .int .i64 r]] w fun e w' => e = .returned (.agg #[.int .i64 a, .int .i64 b, .int .i64 2, .int .i64 i, .int .i64 0, .int .i64 0, .int .i64 r]) ∧ Below w.heap.size w w' := by
  go_enter Try.func41, Try.ntmps41
  go_wp2
  refine bodyPost_ret (results_cell_row rfl _ _ (w.heap.size + 1) 46 #[.int .i64 a, .int .i64 b, .int .i64 2, .int .i64 i, .int .i64 0, .int .i64 0, .int .i64 r] (0, 0) _ rfl (heap_mid _ _ _ _) Try.underlying46 rfl (by kernel_rfl)) rfl ?_
  exact ⟨rfl, below3 _ _ _ _⟩

set_option maxHeartbeats 4000000 in
set_option maxRecDepth 100000 in
theorem only_3 (a b i s d r : Int) (w : World) :
    Calls Try.prog 41 #[.agg #[.int .i64 a, .int .i64 b, .int .i64 3, .int .i64 i, .int .i64 s, .int .i64 d, .int .i64 r]] w fun e w' => e = .returned (.agg #[.int .i64 0, .int .i64 0, .int .i64 3, .int .i64 i, .int .i64 0, .int .i64 0, .int .i64 0]) ∧ Below w.heap.size w w' := by
  go_enter Try.func41, Try.ntmps41
  go_wp2
  refine bodyPost_ret (results_cell_row rfl _ _ (w.heap.size + 1) 46 #[.int .i64 0, .int .i64 0, .int .i64 3, .int .i64 i, .int .i64 0, .int .i64 0, .int .i64 0] (0, 0) _ rfl (heap_mid _ _ _ _) Try.underlying46 rfl (by kernel_rfl)) rfl ?_
  exact ⟨rfl, below3 _ _ _ _⟩

set_option maxHeartbeats 4000000 in
set_option maxRecDepth 100000 in
theorem only_4 (a b i s d r : Int) (w : World) :
    Calls Try.prog 41 #[.agg #[.int .i64 a, .int .i64 b, .int .i64 4, .int .i64 i, .int .i64 s, .int .i64 d, .int .i64 r]] w fun e w' => e = .returned (.agg #[.int .i64 0, .int .i64 0, .int .i64 4, .int .i64 i, .int .i64 0, .int .i64 0, .int .i64 0]) ∧ Below w.heap.size w w' := by
  go_enter Try.func41, Try.ntmps41
  go_wp2
  refine bodyPost_ret (results_cell_row rfl _ _ (w.heap.size + 1) 46 #[.int .i64 0, .int .i64 0, .int .i64 4, .int .i64 i, .int .i64 0, .int .i64 0, .int .i64 0] (0, 0) _ rfl (heap_mid _ _ _ _) Try.underlying46 rfl (by kernel_rfl)) rfl ?_
  exact ⟨rfl, below3 _ _ _ _⟩

set_option maxHeartbeats 4000000 in
set_option maxRecDepth 100000 in
theorem only_5 (a b i s d r : Int) (w : World) :
    Calls Try.prog 41 #[.agg #[.int .i64 a, .int .i64 b, .int .i64 5, .int .i64 i, .int .i64 s, .int .i64 d, .int .i64 r]] w fun e w' => e = .returned (.agg #[.int .i64 a, .int .i64 0, .int .i64 5, .int .i64 i, .int .i64 0, .int .i64 0, .int .i64 0]) ∧ Below w.heap.size w w' := by
  go_enter Try.func41, Try.ntmps41
  go_wp2
  refine bodyPost_ret (results_cell_row rfl _ _ (w.heap.size + 1) 46 #[.int .i64 a, .int .i64 0, .int .i64 5, .int .i64 i, .int .i64 0, .int .i64 0, .int .i64 0] (0, 0) _ rfl (heap_mid _ _ _ _) Try.underlying46 rfl (by kernel_rfl)) rfl ?_
  exact ⟨rfl, below3 _ _ _ _⟩

set_option maxHeartbeats 4000000 in
set_option maxRecDepth 100000 in
theorem only_6 (a b i s d r : Int) (w : World) :
    Calls Try.prog 41 #[.agg #[.int .i64 a, .int .i64 b, .int .i64 6, .int .i64 i, .int .i64 s, .int .i64 d, .int .i64 r]] w fun e w' => e = .returned (.agg #[.int .i64 a, .int .i64 0, .int .i64 6, .int .i64 0, .int .i64 0, .int .i64 0, .int .i64 0]) ∧ Below w.heap.size w w' := by
  go_enter Try.func41, Try.ntmps41
  go_wp2
  refine bodyPost_ret (results_cell_row rfl _ _ (w.heap.size + 1) 46 #[.int .i64 a, .int .i64 0, .int .i64 6, .int .i64 0, .int .i64 0, .int .i64 0, .int .i64 0] (0, 0) _ rfl (heap_mid _ _ _ _) Try.underlying46 rfl (by kernel_rfl)) rfl ?_
  exact ⟨rfl, below3 _ _ _ _⟩

/-- The fields that the kind names, nothing else. -/
def onlyJ (k : Int) (Q : Nat → Int) (j : Nat) : Int := if j ∈ offsK k ∨ j = 2 then Q j else 0
def tollbarref19_only.f (a b k i s d r : Int) : Option (Int × Int × Int × Int × Int × Int × Int) :=
  if 1 ≤ k ∧ k ≤ 6 then some (onlyJ k (qcells a b k i s d r) 0, onlyJ k (qcells a b k i s d r) 1, onlyJ k (qcells a b k i s d r) 2, onlyJ k (qcells a b k i s d r) 3, onlyJ k (qcells a b k i s d r) 4, onlyJ k (qcells a b k i s d r) 5, onlyJ k (qcells a b k i s d r) 6) else none
theorem tollbarref19_only.calls (a0_0 a0_1 a0_2 a0_3 a0_4 a0_5 a0_6 : Int) (r1 r2 r3 r4 r5 r6 r7 : Int) (w : World) (h : tollbarref19_only.f a0_0 a0_1 a0_2 a0_3 a0_4 a0_5 a0_6 = some (r1, r2, r3, r4, r5, r6, r7)) :
    Calls Try.prog 41 #[.agg #[.int .i64 a0_0, .int .i64 a0_1, .int .i64 a0_2, .int .i64 a0_3, .int .i64 a0_4, .int .i64 a0_5, .int .i64 a0_6]] w fun e w' => e = .returned (.agg #[.int .i64 r1, .int .i64 r2, .int .i64 r3, .int .i64 r4, .int .i64 r5, .int .i64 r6, .int .i64 r7]) ∧ Below w.heap.size w w' := by
  unfold tollbarref19_only.f at h
  by_cases hk : 1 ≤ a0_2 ∧ a0_2 ≤ 6
  case neg => rw [if_neg hk] at h; cases h
  rw [if_pos hk] at h
  cases h
  have hk : a0_2 = 1 ∨ a0_2 = 2 ∨ a0_2 = 3 ∨ a0_2 = 4 ∨ a0_2 = 5 ∨ a0_2 = 6 := by omega
  rcases hk with rfl | rfl | rfl | rfl | rfl | rfl
  · exact only_1 a0_0 a0_1 a0_3 a0_4 a0_5 a0_6 w
  · exact only_2 a0_0 a0_1 a0_3 a0_4 a0_5 a0_6 w
  · exact only_3 a0_0 a0_1 a0_3 a0_4 a0_5 a0_6 w
  · exact only_4 a0_0 a0_1 a0_3 a0_4 a0_5 a0_6 w
  · exact only_5 a0_0 a0_1 a0_3 a0_4 a0_5 a0_6 w
  · exact only_6 a0_0 a0_1 a0_3 a0_4 a0_5 a0_6 w
end Go.Proofs.Ytikblicmnfnomaa.Man
