/- slices.Chunk over a row of ints by threes: its iterator's contract. -/
import Derived.RangeFuncNested
import Derived.RangeFuncBound
import Derived.RangeFuncCalls
import Derived.RangeFuncLeaves
import Derived.Shelf.Abstract
import Derived.Shelf.RegionOpen
import Derived.WalkKit
import Derived.OwnWalkIn
import Derived.TacticsInMore
import Derived.LoopNIn
import Derived.LoopIn
import Derived.Test.YteikgpdjfhdneaaInR
import Derived.Test.YteikgpdjfhdneaaQT1
namespace Go.Proofs.Yteikgpdjfhdneaa.Man
open Go.RowKit Go.Shelf

attribute [local go_sem] Oper.semAt_some

/-- What the iterator reads behind a round: the two boxes. -/
def Boxes (B : Nat) (W W' : World) : Prop := W.heap.size ≤ W'.heap.size ∧ W'.heap[B]? = W.heap[B]? ∧ W'.heap[B + 1]? = W.heap[B + 1]?
theorem Boxes.trans {B : Nat} {U V W : World} (h : Boxes B U V) (k : Boxes B V W) : Boxes B U W := ⟨Nat.le_trans h.1 k.1, k.2.1.trans h.2.1, k.2.2.trans h.2.2⟩
theorem Boxes.refl (B : Nat) (W : World) : Boxes B W W := ⟨Nat.le_refl _, rfl, rfl⟩
theorem Boxes.cell0 {B : Nat} {W W' : World} (h : Boxes B W W') (i : Nat) : W'.cell? ⟨B, i, none⟩ = W.cell? ⟨B, i, none⟩ := World.cell?_of_block h.2.1
theorem Boxes.cell1 {B : Nat} {W W' : World} (h : Boxes B W W') (i : Nat) : W'.cell? ⟨B + 1, i, none⟩ = W.cell? ⟨B + 1, i, none⟩ := World.cell?_of_block h.2.2

def chunkV (b off : Nat) (k : Nat) : Value := .slice (some ⟨b, off + 3 * k, none⟩) 3 3

set_option maxRecDepth 100000 in
set_option maxHeartbeats 4000000 in
theorem chunk1_in (F : Fence) (n : Nat) (hf : F.fn 64) (hro : F.round = none) (hn : 1 ≤ n) (l B b off m cap : Nat) (hm : m ≤ 1000000000000) (hcap : 3 * m ≤ cap) (J Jx : List Nat → World → Prop) (hJd : ∀ s W, J s W → J s W.drew)
    (hY : ∀ pre x W, J pre W → pre.length < m → YieldAt F (n - 1) Try.prog l #[chunkV b off (x % m)] W fun e W' =>
      (e = .returned (.bool true) ∧ J (pre ++ [x]) W' ∧ Boxes B W W') ∨ (e = .returned (.bool false) ∧ Jx (pre ++ [x]) W'))
    (W : World) (hB0 : W.cell? ⟨B, 0, none⟩ = some (.slice (some ⟨b, off, none⟩) (3 * m) cap)) (hB1 : W.cell? ⟨B + 1, 0, none⟩ = some (.int .i64 3)) (h0 : J [] W) :
    CallsIn F n Try.prog 64 #[.func (.yield l) #[] #[], .pointer (some ⟨B, 0, none⟩), .pointer (some ⟨B + 1, 0, none⟩)] W fun e W' => (∃ v, e = .returned v) ∧
      ((∃ ys, ys = List.range m ∧ J ys W') ∨ (∃ pre, (∃ k, k ≤ m ∧ pre = List.range k) ∧ Jx pre W')) := by
  refine callsIn_of_wp Try.func64 rfl hf ?_ hro
  simp only [Try.ntmps64, List.size_toArray, List.length_cons, List.length_nil, Nat.reduceAdd, Nat.reduceSub, Array.replicate_succ, Array.replicate_zero, List.push_toArray, List.append_toArray, List.nil_append, List.cons_append]
  gi_wp2
  gi_loopw [4] (fun i wr => ∃ k : Nat, k ≤ m ∧ i = .int .i64 ((3 * k : Nat) : Int) ∧ J (List.range k) wr ∧ Boxes B W wr)
    (fun i _ => 3 * m - (intOf i).toNat)
  case atStart => exact ⟨0, Nat.zero_le _, rfl, h0, Boxes.refl _ _⟩
  case round =>
    obtain ⟨k, hk, rfl, hJs, hnx⟩ := hrel
    have hc0 := (hnx.cell0 0).trans hB0
    have hc1 := (hnx.cell1 0).trans hB1
    by_cases hlt : k < m
    · obtain ⟨fn, tmps, assign, body, hy, hR⟩ := hY _ k wr.drew (hJd _ _ hJs) (by simpa using hlt)
      have q1 : ((3 * k : Nat) : Int) < ((3 * m : Nat) : Int) := by omega
      have q2 : (0 : Int) ≤ ((3 * k : Nat) : Int) := by omega
      have q3 : ((3 * k : Nat) : Int) ≤ (cap : Int) := by omega
      have q4 : ¬ cap = 3 * k := by omega
      have q5 : (3 : Int) ≤ ((3 * m - 3 * k : Nat) : Int) := by omega
      rw [Nat.mod_eq_of_lt hlt] at hy
      simp only [chunkV] at hy
      gi_wp2
      gi_region
      all_goals gi_wp2
      all_goals
        refine hR.mono ?_
        rintro e W3 (⟨rfl, hJ3, hk3⟩ | ⟨rfl, hJx3⟩)
        · have hk4 : Boxes B W W3 := ⟨Nat.le_trans hnx.1 hk3.1, (show W3.heap[B]? = wr.heap[B]? from hk3.2.1).trans hnx.2.1, (show W3.heap[B + 1]? = wr.heap[B + 1]? from hk3.2.2).trans hnx.2.2⟩
          have hd1 := (hk4.cell1 0).trans hB1
          gi_wp2
          go_roundw
          case rel => exact ⟨k + 1, by omega, by simp; omega, by rw [List.range_succ]; exact hJ3, hk4⟩
          case measure => simp [intOf]; omega
        · gi_wp2
          refine bodyPost_ret (results_none rfl _ _ _) rfl ?_
          exact ⟨⟨_, rfl⟩, .inr ⟨_, ⟨k + 1, by omega, (List.range_succ).symm⟩, hJx3⟩⟩
    · obtain rfl : k = m := by omega
      gi_wp2
      go_end0
      exact ⟨⟨_, rfl⟩, .inl ⟨_, rfl, hJs⟩⟩

set_option maxHeartbeats 1000000 in
theorem chunk_in (F : Fence) (n : Nat) (hf : F.fn 37) (hro : F.round = none) (a : Option Addr) (len cap : Nat) (w : World) :
    CallsIn F n Try.prog 37 #[.slice a len cap, .int .i64 3] w fun e w' => e = .returned (.func (.func 64) #[] #[.pointer (some ⟨w.heap.size, 0, none⟩), .pointer (some ⟨w.heap.size + 1, 0, none⟩)]) ∧ w' = (w.alloc (.cells #[.slice a len cap] 43)).alloc (.cells #[.int .i64 3] 3) := by
  refine callsIn_of_wp Try.func37 rfl hf ?_ hro
  simp only [Try.ntmps37, List.size_toArray, List.length_cons, List.length_nil, Nat.reduceAdd, Nat.reduceSub, Array.replicate_succ, Array.replicate_zero, List.push_toArray, List.append_toArray, List.nil_append, List.cons_append]
  gi_wp2
  go_ret
  exact ⟨rfl, rfl⟩

/-- It stops, or comes to an end, whatever the loop's body does, if that keeps the two boxes. -/
theorem chunk_stops (F : Fence) (n : Nat) (hf : F.fn 64) (hro : F.round = none) (hn : 1 ≤ n) (B b off m cap : Nat) (hm : m ≤ 1000000000000) (w : World) (hB : B + 1 < w.heap.size)
    (hB0 : w.cell? ⟨B, 0, none⟩ = some (.slice (some ⟨b, off, none⟩) (3 * m) cap)) (hB1 : w.cell? ⟨B + 1, 0, none⟩ = some (.int .i64 3)) (hcap : 3 * m ≤ cap) :
    SeqStopsK F n Try.prog 64 #[.pointer (some ⟨B, 0, none⟩), .pointer (some ⟨B + 1, 0, none⟩)] (fun k => #[chunkV b off (k % m)]) (Boxes B) (fun ys => ys = List.range m) (fun pre => ∃ k, k ≤ m ∧ pre = List.range k) m w := fun l J Jx W hW hJ _ hY h0 => by
  have c0 := (hW.cell (p := ⟨B, 0, none⟩) (by show B < _; omega)).trans hB0
  have c1 := (hW.cell (p := ⟨B + 1, 0, none⟩) hB).trans hB1
  exact chunk1_in F n hf hro hn l B b off m cap hm hcap J Jx (fun s W' h => hJ s W' W'.drew none h ⟨rfl, rfl, rfl, Nat.le_refl _, fun _ _ _ => rfl⟩ (fun r e => by cases e)) hY W c0 c1 h0
end Go.Proofs.Yteikgpdjfhdneaa.Man
