/- Texts of this claim laid together: Au. -/
import Derived.Test.YtgkjpffbgnljeaaCaw
/- Short words for a printed text: steps that a printed walk takes again and again, as theorems whose last argument is found by tactics. -/
set_option linter.unusedVariables false
namespace Go.Proofs.Ytgkjpffbgnljeaa.Au
open Go.RowKit Go.Proofs.YtgkjpffbgnljeaaW.PrintWords Go.Proofs.YtgkjpffbgnljeaaW.PrintLast Go.Proofs.YtgkjpffbgnljeaaW.PrintMore
theorem zA : type_of% @Kd.R_alloc := @Kd.R_alloc
theorem zB : type_of% @Kd.R_drewN := @Kd.R_drewN
theorem zC : type_of% @Kd.R_drew := @Kd.R_drew
theorem zD : type_of% @blk_drewN := @blk_drewN
theorem zE : type_of% @blk_drew := @blk_drew
theorem zF : type_of% @blk_alloc := @blk_alloc
theorem zG : type_of% @below_alloc := @below_alloc
theorem zH : type_of% @pw_below_drewN := @pw_below_drewN
theorem zI : type_of% @below_drew1 := @below_drew1
theorem zJ : type_of% @World.block_lt_of_cell? := @World.block_lt_of_cell?
theorem zK : type_of% @Aside0.mk := @Aside0.mk
theorem zL : type_of% @below_set := @below_set
theorem zM : type_of% @Nat.lt_of_lt_of_le := @Nat.lt_of_lt_of_le
theorem zN : type_of% @Nat.ne_of_lt := @Nat.ne_of_lt
theorem zO : type_of% @Kd.R_below := @Kd.R_below
theorem zP : type_of% @blk_below := @blk_below
theorem zQ : type_of% @blk_cell := @blk_cell
theorem zR : type_of% @blk_frozen := @blk_frozen
theorem zS : type_of% @Kd.C_alloc := @Kd.C_alloc
theorem zT : type_of% @Kd.C_drewN := @Kd.C_drewN
theorem zU : type_of% @Kd.C_drew := @Kd.C_drew
theorem zV : type_of% @Kd.R_lower := @Kd.R_lower
theorem zW : type_of% @Kd.R_new' := @Kd.R_new'
theorem zX : type_of% @Kd.R_reads' := @Kd.R_reads'
theorem zY.{u} : type_of% @List.setIfInBounds_toArray.{u} := @List.setIfInBounds_toArray.{u}
theorem zZ.{u} : type_of% @List.set_cons_zero.{u} := @List.set_cons_zero.{u}
theorem yA.{u} : type_of% @List.set_cons_succ.{u} := @List.set_cons_succ.{u}
theorem yB : type_of% @Kd.R_lt := @Kd.R_lt
theorem yC : type_of% @Kd.R_elder' := @Kd.R_elder'
theorem yE : type_of% @Kd.R_slice := @Kd.R_slice
theorem yF : type_of% @below_step := @below_step
theorem yG : type_of% @below_size := @below_size
theorem yH : type_of% @Option.bind_eq_some_iff := @Option.bind_eq_some_iff
theorem yI : type_of% @beq_iff_eq := @beq_iff_eq
theorem yJ : type_of% @bne_eq_false_iff_eq := @bne_eq_false_iff_eq
theorem yK : type_of% @beq_eq_false_iff_ne := @beq_eq_false_iff_ne
theorem yL : type_of% @bne_iff_ne := @bne_iff_ne
theorem zr {p q : Prop} (h : q) (g : q → p := by intro h; (with_reducible repeat (first | apply Kd.R_alloc | apply Kd.R_drewN | apply Kd.R_drew)); exact h) : p := g h
theorem zs {p q : Prop} (h : q) (g : q → p := by intro h; (with_reducible repeat (first | apply Kd.S_alloc | apply Kd.S_drewN | apply Kd.S_drew)); exact h) : p := g h
theorem zb {p q : Prop} (h : q) (g : q → p := by intro h; (with_reducible repeat (first | refine blk_drewN ?_ _ | refine blk_drew ?_ | refine blk_alloc ?_ _)); exact h) : p := g h
theorem zl {p q : Prop} (h : q) (g : q → p := by intro h; repeat (first | (with_reducible first | exact h | apply below_alloc | apply pw_below_drewN | apply below_drew1 | refine below_set ?_ (Aside0.out (by assumption))) | exact h)) : p := g h
theorem zc {p q : Prop} (h : q) (g : q → p := by intro h; repeat (first | exact h | (with_reducible refine Kd.C_alloc ?_ _) | (with_reducible refine Kd.C_drewN ?_ _) | (with_reducible refine Kd.C_drew ?_))) : p := g h
theorem zt {p : Prop} (g : p := by (try simp only [List.map_toArray, List.map_cons, List.map_nil]); first | done | rfl | (simp only [List.length_drop, List.length_take]; rfl)) : p := g
theorem zz {p : Prop} (g : p := by first | rfl | (simp; done) | (simp [*]; done)) : p := g
theorem ze {p : Prop} (g : p := by first | rfl | (simp [errW_none, errW_some] <;> rfl) | (simp [*, errW_none, errW_some] <;> rfl)) : p := g
end Go.Proofs.Ytgkjpffbgnljeaa.Au
