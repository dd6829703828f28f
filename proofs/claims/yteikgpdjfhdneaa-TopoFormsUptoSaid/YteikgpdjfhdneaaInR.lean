/- A region that draws its order, in the round of a loop over a function: by the plain laws (wpAny), where no operation of it calls a function or defers. -/
import Derived.OrdersHeld
import Derived.OrdersIn
import Derived.Deep.AppendLies
import Derived.RangeFuncWrites
import Derived.WalkKit
namespace Go.Proofs.Yteikgpdjfhdneaa.Man
open Go Go.RowKit

def tame : Result Next → Prop
  | .ok (.value _) _ => True
  | .ok .skip _ => True
  | .halt _ _ => True
  | _ => False

theorem tame_v (P : Program) (s : Sem Value) (w : World) : tame ((s >>= fun v => pure (Next.value v)).run P w) := by
  rw [Sem.run_bind]
  cases s.run P w <;> simp [Result.andThen, tame, Sem.run_pure]
theorem tame_u (P : Program) (s : Sem Unit) (w : World) : tame ((s >>= fun _ => pure Next.skip).run P w) := by
  rw [Sem.run_bind]
  cases s.run P w <;> simp [Result.andThen, tame, Sem.run_pure]

structure Calm (P : Program) (o : Oper) : Prop where
  nod : ∀ c, o.op ≠ .defer c
  abt : ∀ w ρ, o.about P w ρ = none
  run : ∀ ρ w, tame ((execOp ρ o).run P w)

theorem calm_move {P : Program} {o : Oper} {x : Operand} (h : o.op = .move x) : Calm P o :=
  ⟨(by rw [h]; intro c e; cases e), fun w ρ => by simp [Oper.about, h], fun ρ w => by simp [execOp, h, Sem.run_pure, tame]⟩
theorem calm_load {P : Program} {o : Oper} {t : TypeId} {x : Operand} (h : o.op = .load t x) : Calm P o :=
  ⟨(by rw [h]; intro c e; cases e), fun w ρ => by simp [Oper.about, h], fun ρ w => by unfold execOp; simp only [h]; exact tame_v P _ w⟩
theorem calm_store {P : Program} {o : Oper} {t : TypeId} {x y : Operand} (h : o.op = .store t x y) : Calm P o :=
  ⟨(by rw [h]; intro c e; cases e), fun w ρ => by simp [Oper.about, h], fun ρ w => by unfold execOp; simp only [h]; exact tame_u P _ w⟩
theorem calm_build {P : Program} {o : Oper} {t : TypeId} {x} (h : o.op = .build t x) : Calm P o :=
  ⟨(by rw [h]; intro c e; cases e), fun w ρ => by simp [Oper.about, h], fun ρ w => by unfold execOp; simp only [h]; exact tame_v P _ w⟩
theorem calm_buildSlice {P : Program} {o : Oper} {t : TypeId} {n} {x} (h : o.op = .buildSlice t n x) : Calm P o :=
  ⟨(by rw [h]; intro c e; cases e), fun w ρ => by simp [Oper.about, h], fun ρ w => by unfold execOp; simp only [h]; exact tame_v P _ w⟩
theorem calm_fieldAddr {P : Program} {o : Oper} {t} {x} {n} (h : o.op = .fieldAddr t x n) : Calm P o :=
  ⟨(by rw [h]; intro c e; cases e), fun w ρ => by simp [Oper.about, h], fun ρ w => by unfold execOp; simp only [h]; exact tame_v P _ w⟩
theorem calm_indexAddr {P : Program} {o : Oper} {t} {x} {n} (h : o.op = .indexAddr t x n) : Calm P o :=
  ⟨(by rw [h]; intro c e; cases e), fun w ρ => by simp [Oper.about, h], fun ρ w => by unfold execOp; simp only [h]; exact tame_v P _ w⟩
theorem calm_append {P : Program} {o : Oper} {args : Array Operand} {ts : Array TypeId} (h : o.op = .call { callee := .builtin .append, args := args, argTypes := ts }) : Calm P o := by
  refine ⟨(by rw [h]; intro c e; cases e), fun w ρ => by simp [Oper.about, h, resolve, Target.leads, Sem.run_pure], fun ρ w => ?_⟩
  unfold execOp
  simp only [h, resolve, invoke]
  rw [Sem.run_bind]
  simp only [Sem.run_pure, Result.andThen, builtin]
  exact tame_v P _ w

theorem Calm.wpIn {F : Fence} {n : Nat} {P : Program} {o : Oper} {Q : Exit → Act → World → Prop} {a : Act} {w : World} {K K' : Act → World → Prop}
    (hc : Calm P o) (hQ : ¬ LetsOut Q) (hK : ∀ a w, K a w → K' a w) (h : o.wp P a w K Q ∨ (o.asks P a w ∧ LetsOut Q)) : o.wpIn F n P a w K' Q := by
  rcases h with h | h
  case inr => exact (hQ h.2).elim
  unfold Oper.wpIn
  refine ⟨fun f hf => (by rw [hc.abt] at hf; cases hf), ?_⟩
  rw [Oper.semAt_eq _ _ _ hc.nod]
  unfold Oper.wp at h
  have ht := hc.run a.eval w
  generalize (execOp a.eval o).run P w = r at h ht
  cases r with
  | ok x w' =>
    cases x <;> simp only [tame] at ht <;> simp only [Oper.upon] at h <;> simp only [Oper.uponIn] <;> exact hK _ _ h
  | halt x w' =>
    cases x <;> simp only [Oper.upon] at h <;> simp only [Oper.uponIn] <;> exact h

theorem wpAnyIn_of {F : Fence} {n : Nat} {P : Program} {md : Region.Mode} {ops : Array Oper} {Q : Exit → Act → World → Prop} (hQ : ¬ LetsOut Q) (hp : ∀ (i : Nat) (o : Oper), ops[i]? = some o → Calm P o) :
    ∀ fuel listed a w, wpAny P md ops Q fuel listed a w → wpAnyIn F n P md ops Q fuel listed a w
  | 0, _, _, _, h => h
  | fuel + 1, listed, a, w, h => ⟨h.1, fun i hi => by
      have h1 := h.2 i hi
      unfold wpOp at h1
      unfold wpOpIn
      cases ho : ops[i]? with
      | none => rw [ho] at h1; exact wpAnyIn_of hQ hp _ _ _ _ h1
      | some o =>
        rw [ho] at h1
        simp only at h1 ⊢
        split
        · rename_i hw
          rw [if_pos hw] at h1
          exact (hp i o ho).wpIn (K := wpAny P md ops Q fuel (listed.setIfInBounds i true)) hQ (fun a w => wpAnyIn_of hQ hp _ _ a w) h1
        · rename_i hw
          rw [if_neg hw] at h1
          exact ⟨fun f hf => (by rw [(hp i o ho).abt] at hf; cases hf), wpAnyIn_of hQ hp _ _ _ _ h1⟩⟩

/-- A drawn region of calm operations, in whatever fence: by the plain law under a condition on the world. -/
theorem wpIn_region_calm {F : Fence} {n : Nat} {P : Program} {id : Nat} {ops : Array Oper} {Q : Exit → Act → World → Prop} {a : Act} {w : World} (S : World → Prop) (hm : P.follows .mixedOrders = true) (hQ : ¬ LetsOut Q) (hp : ∀ (i : Nat) (o : Oper), ops[i]? = some o → Calm P o)
    (hS : S w.drew) (h : S w.drew → wpAnyH P .any ops Q S ops.size (Array.replicate ops.size false) a w.drew) : (Code.region id ops true).wpIn F n P Q a w :=
  wpIn_region_any hm (wpAnyIn_of hQ hp _ _ _ _ (wpAny_of_held _ _ _ _ (h hS)))
end Go.Proofs.Yteikgpdjfhdneaa.Man
