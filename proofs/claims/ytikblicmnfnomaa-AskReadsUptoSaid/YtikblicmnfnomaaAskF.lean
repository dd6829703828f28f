/- calendar.Fields at this dump: pointers to the fields that a request's kind names, in their row. -/
import Derived.Test.YtikblicmnfnomaaWordC
set_option linter.unusedVariables false
namespace Go.Proofs.Ytikblicmnfnomaa.Man
open Go.RowKit Go.Proofs.YtikblicmnfnomaaW.PrintWords Go.Proofs.YtikblicmnfnomaaW.PrintLast Go.Proofs.YtikblicmnfnomaaW.PrintMore

/-- The places of the fields that a kind names. -/
def offsK (kind : Int) : List Nat := if kind = 1 then [4, 5, 6, 0, 1] else if kind = 2 then [3, 6, 0, 1] else if kind = 3 then [3] else if kind = 4 then [3] else if kind = 5 then [3, 0] else if kind = 6 then [0] else []
abbrev ptrs (g : Nat) (os : List Nat) : Array Value := (os.map fun o => Value.pointer (some ⟨g, o, none⟩)).toArray
def FieldsPost (g : Nat) (os : List Nat) (w : World) (e : Ending) (w' : World) : Prop :=
  (os = [] ∧ e = .returned (.slice none 0 0) ∧ w = w') ∨ (os ≠ [] ∧ e = .returned (.slice (some ⟨w.heap.size, 0, none⟩) os.length os.length) ∧ ∃ n, w' = (w.alloc (.cells (ptrs g os) 70)).drewN n)

set_option maxHeartbeats 4000000 in
set_option maxRecDepth 100000 in
theorem fields_1 (g : Nat) (w : World) (hk : w.cell? ⟨g, 2, none⟩ = some (.int .i64 1)) :
    Calls Try.prog 39 #[.pointer (some ⟨g, 0, none⟩)] w (FieldsPost g [4, 5, 6, 0, 1] w) := by
  go_enter Try.func39, Try.ntmps39
  go_wp2
  go_region
  go_wp2
  go_ret
  exact .inr ⟨by decide, rfl, 1, rfl⟩

set_option maxHeartbeats 4000000 in
set_option maxRecDepth 100000 in
theorem fields_2 (g : Nat) (w : World) (hk : w.cell? ⟨g, 2, none⟩ = some (.int .i64 2)) :
    Calls Try.prog 39 #[.pointer (some ⟨g, 0, none⟩)] w (FieldsPost g [3, 6, 0, 1] w) := by
  go_enter Try.func39, Try.ntmps39
  go_wp2
  go_region
  go_wp2
  go_ret
  exact .inr ⟨by decide, rfl, 1, rfl⟩

set_option maxHeartbeats 4000000 in
set_option maxRecDepth 100000 in
theorem fields_3 (g : Nat) (w : World) (hk : w.cell? ⟨g, 2, none⟩ = some (.int .i64 3)) :
    Calls Try.prog 39 #[.pointer (some ⟨g, 0, none⟩)] w (FieldsPost g [3] w) := by
  go_enter Try.func39, Try.ntmps39
  go_wp2
  go_ret
  exact .inr ⟨by decide, rfl, 0, rfl⟩

set_option maxHeartbeats 4000000 in
set_option maxRecDepth 100000 in
theorem fields_4 (g : Nat) (w : World) (hk : w.cell? ⟨g, 2, none⟩ = some (.int .i64 4)) :
    Calls Try.prog 39 #[.pointer (some ⟨g, 0, none⟩)] w (FieldsPost g [3] w) := by
  go_enter Try.func39, Try.ntmps39
  go_wp2
  go_ret
  exact .inr ⟨by decide, rfl, 0, rfl⟩

set_option maxHeartbeats 4000000 in
set_option maxRecDepth 100000 in
theorem fields_5 (g : Nat) (w : World) (hk : w.cell? ⟨g, 2, none⟩ = some (.int .i64 5)) :
    Calls Try.prog 39 #[.pointer (some ⟨g, 0, none⟩)] w (FieldsPost g [3, 0] w) := by
  go_enter Try.func39, Try.ntmps39
  go_wp2
  go_region
  go_wp2
  go_ret
  exact .inr ⟨by decide, rfl, 1, rfl⟩

set_option maxHeartbeats 4000000 in
set_option maxRecDepth 100000 in
theorem fields_6 (g : Nat) (w : World) (hk : w.cell? ⟨g, 2, none⟩ = some (.int .i64 6)) :
    Calls Try.prog 39 #[.pointer (some ⟨g, 0, none⟩)] w (FieldsPost g [0] w) := by
  go_enter Try.func39, Try.ntmps39
  go_wp2
  go_ret
  exact .inr ⟨by decide, rfl, 0, rfl⟩

set_option maxHeartbeats 4000000 in
set_option maxRecDepth 100000 in
theorem fields_none (g : Nat) (kind : Int) (w : World) (hk : w.cell? ⟨g, 2, none⟩ = some (.int .i64 kind)) (h1 : (kind == 1) = false) (h2 : (kind == 2) = false) (h3 : (kind == 3) = false) (h4 : (kind == 4) = false) (h5 : (kind == 5) = false) (h6 : (kind == 6) = false) :
    Calls Try.prog 39 #[.pointer (some ⟨g, 0, none⟩)] w (FieldsPost g [] w) := by
  go_enter Try.func39, Try.ntmps39
  go_wp2
  go_ret
  exact .inl ⟨rfl, rfl, rfl⟩

theorem fields_any (g : Nat) (kind : Int) (w : World) (hk : w.cell? ⟨g, 2, none⟩ = some (.int .i64 kind)) :
    Calls Try.prog 39 #[.pointer (some ⟨g, 0, none⟩)] w (FieldsPost g (offsK kind) w) := by
  unfold offsK
  by_cases h1 : kind = 1
  · subst h1
    exact fields_1 g w hk
  by_cases h2 : kind = 2
  · subst h2
    exact fields_2 g w hk
  by_cases h3 : kind = 3
  · subst h3
    exact fields_3 g w hk
  by_cases h4 : kind = 4
  · subst h4
    exact fields_4 g w hk
  by_cases h5 : kind = 5
  · subst h5
    exact fields_5 g w hk
  by_cases h6 : kind = 6
  · subst h6
    exact fields_6 g w hk
  rw [if_neg h1, if_neg h2, if_neg h3, if_neg h4, if_neg h5, if_neg h6]
  exact fields_none g kind w hk (beq_eq_false_iff_ne.2 h1) (beq_eq_false_iff_ne.2 h2) (beq_eq_false_iff_ne.2 h3) (beq_eq_false_iff_ne.2 h4) (beq_eq_false_iff_ne.2 h5) (beq_eq_false_iff_ne.2 h6)
end Go.Proofs.Ytikblicmnfnomaa.Man
