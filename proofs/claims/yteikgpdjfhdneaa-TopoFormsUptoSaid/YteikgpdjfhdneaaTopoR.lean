/- topo.Read: what it answers, and that the call answers so. -/
import Derived.Test.YteikgpdjfhdneaaTopoC
import Derived.Test.YteikgpdjfhdneaaQA
set_option linter.unusedVariables false
set_option linter.unusedSimpArgs false
namespace Go.Proofs.Yteikgpdjfhdneaa.Man
open Go.RowKit Go.Shelf Go.Proofs.Yteikgpdjfhdneaa.QT Go.Proofs.Yteikgpdjfhdneaa.QA Go.Proofs.YteikgpdjfhdneaaW.PrintWords Go.Proofs.YteikgpdjfhdneaaW.PrintLast Go.Proofs.YteikgpdjfhdneaaW.PrintMore

attribute [local go_sem] Oper.semAt_some

def linksF : List Int → List S60
  | a :: b :: c :: r => ⟨a, b, c⟩ :: linksF r
  | _ => []
/-- A row of numbers has a graph's form. -/
def formF (xs : List Int) : Bool := decide (2 ≤ xs.length) && (decide ((xs.length - 2) % 3 = 0) && decide (((xs.length - 2) / 3 : Nat) = rd xs 1))
def topo_Read.f (k : Nat) (a0 : ByteArray) : Option (Int × List S60 × Int) :=
  (word_List.f k a0).bind fun p => if p.2 = 0 ∧ formF p.1 = true then (if p.1.length ≤ 1000000000000 then (graph_May.f k (rd p.1 0) (linksF (p.1.drop 2))).bind fun t => (if t = true then some (rd p.1 0, linksF (p.1.drop 2), 0) else some (0, [], 2400)) else none) else some (0, [], 2400)

theorem topo_Read.mono : ∀ a0 k, LeO (topo_Read.f k a0) (topo_Read.f (k + 1) a0) := by
  intro a0 k
  unfold topo_Read.f
  refine LeO.bind (word_List.mono _ _) (fun _ => ?_)
  refine LeO.ite (LeO.ite (LeO.bind (graph_May.mono _ _ _) (fun _ => ?_)) (LeO.none _)) (LeO.refl _)
  exact LeO.refl _

/-- The way out: the result's block holds the graph. -/
theorem endA {w W : World} {r1 r3 : Int} {r2 : List S60} {v1 : Value} (tmps : Array Value) (hp : tmps.getD 2 undef = .pointer (some ⟨w.heap.size, 0, none⟩)) (h3 : tmps.getD 3 undef = .int .i64 r3)
    (hb : W.heap[w.heap.size]? = some (.cells #[.int .i64 r1, v1] 24 (0, 0))) (HR : Kd.R k60 60 W w.heap.size (fun _ => True) v1 r2) (HB : Below w.heap.size w W) :
    LeavesInM Fence.wide 9 Try.prog Try.f19 tmps (fun e w' => ∃ v1_ : Value, e = .returned (.tuple #[.agg #[.int .i64 r1, v1_], .int .i64 r3]) ∧ Kd.R k60 60 w' w.heap.size (fun _ => True) v1_ r2 ∧ Below w.heap.size w w') [] .returning W :=
  ⟨_, results_ct rfl _ _ _ 24 #[.int .i64 r1, v1] (0, 0) _ hp hb Try.underlying24 rfl (by kernel_rfl), v1, by rw [h3], HR, HB⟩

/-- The way out with an error, ahead of the loop. -/
theorem endE {w w1 : World} {r1 r3 : Int} {r2 : List S60} (tmps : Array Value) (hp : tmps.getD 2 undef = .pointer (some ⟨w.heap.size, 0, none⟩)) (h3 : tmps.getD 3 undef = .int .i64 2400)
    (hb : w1.heap[w.heap.size]? = some (.cells #[.int .i64 0, .slice none 0 0] 24 (0, 0))) (HB : Below w.heap.size w w1) (h : some ((0 : Int), ([] : List S60), (2400 : Int)) = some (r1, r2, r3)) :
    bodyPostM Fence.wide 9 Try.prog Try.f19 (fun e w' => ∃ v1_ : Value, e = .returned (.tuple #[.agg #[.int .i64 r1, v1_], .int .i64 r3]) ∧ Kd.R k60 60 w' w.heap.size (fun _ => True) v1_ r2 ∧ Below w.heap.size w w') .ret { tmps := tmps, defers := [] }
      ((w1.setCell ⟨w.heap.size, 0, none⟩ (.int .i64 0)).setCell ⟨w.heap.size, 1, none⟩ (.slice none 0 0)) := by
  simp only [Option.some.injEq, Prod.mk.injEq] at h
  obtain ⟨rfl, rfl, rfl⟩ := h
  exact endA tmps hp h3 (by simpa using blk_set (blk_set hb 0 (.int .i64 0)) 1 (.slice none 0 0)) (Kd.R_nil _ _ _ _ _) ((HB.setCell (p := ⟨w.heap.size, 0, none⟩) (Nat.le_refl _) _).setCell (p := ⟨w.heap.size, 1, none⟩) (Nat.le_refl _) _)

theorem rcells {W : World} {b : Nat} {ok : Nat → Prop} {v : Value} {ys : List S60} (HR : Kd.R k60 60 W b ok v ys) : ∀ j o, v.ownBlock = some j → W.heap[j]? = some o → o.isCells = true := fun j o ej hj => by
  obtain ⟨inner, ho⟩ := Kd.R_own HR
  obtain ⟨cs, hc⟩ := own_typed ho j ej
  rw [hj] at hc
  injection hc with hc
  subst hc
  rfl
/-- The way out behind the loop: its mark is taken in. -/
theorem endD {w W : World} {r1 r3 : Int} {r2 : List S60} {v1 : Value} {D : Nat} (tmps : Array Value) (hp : tmps.getD 2 undef = .pointer (some ⟨w.heap.size, 0, none⟩)) (h3 : tmps.getD 3 undef = .int .i64 r3)
    (hb : W.heap[w.heap.size]? = some (.cells #[.int .i64 r1, v1] 24 (0, 0))) (HR : Kd.R k60 60 W w.heap.size (fun _ => True) v1 r2) (HB : Below w.heap.size w W) (hK : W.heap[D]? = some (.deferred (some []))) (hD : w.heap.size < D) :
    bodyPostM Fence.wide 9 Try.prog Try.f19 (fun e w' => ∃ v1_ : Value, e = .returned (.tuple #[.agg #[.int .i64 r1, v1_], .int .i64 r3]) ∧ Kd.R k60 60 w' w.heap.size (fun _ => True) v1_ r2 ∧ Below w.heap.size w w') .ret { tmps := tmps, defers := [{ target := .collected D, args := #[] }] } W := by
  refine ⟨by simp, .inl ⟨_, _, rfl, run_takeDeferred hK, ?_⟩⟩
  refine endA tmps hp h3 ((World.putObj_heap_other (by omega)).trans hb) (Kd.R_grown2 HR (by rfl) (grownBy_putObj' W D _) (fun k e e' => ?_)) (HB.grown (grownBy_putObj' W D _) HB.size (fun k e => by cases e; omega))
  cases e
  have := rcells HR D _ e'.symm hK
  cases this

theorem linksF_map : ∀ (m : Nat) (ys : List Int), ys.length = 3 * m → (List.range m).map (fun k => (⟨rd ys (3 * k : Nat), rd ys (3 * k + 1 : Nat), rd ys (3 * k + 2 : Nat)⟩ : S60)) = linksF ys
  | 0, ys, h => by
    have : ys = [] := List.length_eq_zero_iff.1 (by omega)
    subst this
    rfl
  | m + 1, a :: b :: c :: r, h => by
    have ih := linksF_map m r (by simp at h; omega)
    rw [List.range_succ_eq_map, List.map_cons, List.map_map]
    show _ :: _ = (⟨a, b, c⟩ : S60) :: linksF r
    rw [← ih]
    congr 1
  | m + 1, [], h => by simp at h
  | m + 1, [a], h => by simp at h; omega
  | m + 1, [a, b], h => by simp at h; omega
theorem links_drop (m : Nat) (xs : List Int) (h : xs.length - 2 = 3 * m) (h2 : 2 ≤ xs.length) : (List.range m).map (fun k => (⟨rd xs (2 + 3 * (k % m) : Nat), rd xs (3 + 3 * (k % m) : Nat), rd xs (4 + 3 * (k % m) : Nat)⟩ : S60)) = linksF (xs.drop 2) := by
  rw [← linksF_map m (xs.drop 2) (by simp; omega)]
  refine List.map_congr_left (fun k hk => ?_)
  have hk' : k < m := List.mem_range.1 hk
  rw [Nat.mod_eq_of_lt hk']
  have e : ∀ j : Nat, rd (xs.drop 2) (j : Int) = rd xs ((2 + j : Nat) : Int) := fun j => by
    unfold rd
    rw [Int.toNat_natCast, Int.toNat_natCast]
    simp
  rw [e, e, e, show 2 + (3 * k + 1) = 3 + 3 * k by omega, show 2 + (3 * k + 2) = 4 + 3 * k by omega]

theorem quo3 (L : Nat) (h : 2 ≤ L) : ((L : Int) - 2) / 3 = (((L - 2) / 3 : Nat) : Int) := by omega
theorem rem3 (L : Nat) (h : 2 ≤ L) : ((L : Int) - 2) % 3 = (((L - 2) % 3 : Nat) : Int) := by omega

/-- What word.List has handed over. -/
theorem arm_ {w w1 : World} {v0 : Value} {xs : List Int} (HX : (Kd.int IntKind.i64).R 3 w1 (w.alloc (Obj.cells #[Value.int IntKind.i64 0, Value.slice none 0 0] 24)).heap.size (fun x => True) v0 xs)
    (HB : Below (w.alloc (Obj.cells #[Value.int IntKind.i64 0, Value.slice none 0 0] 24)).heap.size (w.alloc (Obj.cells #[Value.int IntKind.i64 0, Value.slice none 0 0] 24)) w1) :
      ∃ A c, v0 = .slice A xs.length c ∧ xs.length ≤ c ∧ c ≤ maxLen ∧ (Kd.int .i64).C w1 A xs.length xs ∧ w1.heap[w.heap.size]? = some (.cells #[.int .i64 0, .slice none 0 0] 24 (0, 0)) ∧ Below w.heap.size w w1 ∧ w.heap.size < w1.heap.size ∧
        (A = none ∧ c = 0 ∨ ∃ g, A = some ⟨g, 0, none⟩ ∧ w.heap.size < g ∧ g < w1.heap.size) := by
  obtain ⟨A, c, he, hlc, hC⟩ := Kd.R_reads HX
  obtain ⟨inner, ho⟩ := Kd.R_own HX
  have hb : w1.heap[w.heap.size]? = some (.cells #[.int .i64 0, .slice none 0 0] 24 (0, 0)) := blk_below (blk_new w _) HB
  refine ⟨A, c, he, hlc, ?_, hC, hb, ((Below.refl w.heap.size w).alloc (Nat.le_refl _) _).trans (HB.mono (by simp)), blk_lt hb, ?_⟩
  · rcases ho.2 with ⟨e, _⟩ | ⟨g, cap, cur, e, hbs, hg, h1, h2, _⟩ <;> rw [he] at e <;> injection e with e1 e2 e3
    · rw [e3]; exact Nat.zero_le _
    · rw [e3]; exact h2
  · rcases ho.2 with ⟨e, _⟩ | ⟨g, cap, cur, e, hbs, hg, h1, h2, _⟩ <;> rw [he] at e <;> injection e with e1 e2 e3
    · exact .inl ⟨e1, e3⟩
    · exact .inr ⟨g, e1, by simp at hbs; omega, blk_lt hg⟩

theorem arm2_ {w w1 : World} {v0 : Value} {xs : List Int} (h2 : 2 ≤ xs.length) (HX : (Kd.int IntKind.i64).R 3 w1 (w.alloc (Obj.cells #[Value.int IntKind.i64 0, Value.slice none 0 0] 24)).heap.size (fun x => True) v0 xs)
    (HB : Below (w.alloc (Obj.cells #[Value.int IntKind.i64 0, Value.slice none 0 0] 24)).heap.size (w.alloc (Obj.cells #[Value.int IntKind.i64 0, Value.slice none 0 0] 24)) w1) :
      ∃ g c, v0 = .slice (some ⟨g, 0, none⟩) xs.length c ∧ xs.length ≤ c ∧ c ≤ 9223372036854775807 ∧ (∀ i : Nat, i < xs.length → w1.cell? ⟨g, i, none⟩ = some (.int .i64 (rd xs i))) ∧ w1.heap[w.heap.size]? = some (.cells #[.int .i64 0, .slice none 0 0] 24 (0, 0)) ∧ Below w.heap.size w w1 ∧ w.heap.size < g ∧ g < w1.heap.size ∧
        wrap64 ((xs.length : Int) - 2) = (xs.length : Int) - 2 := by
  obtain ⟨A, c, rfl, hlc, hcm, HC, hb0, HB0, hlt0, hA⟩ := arm_ HX HB
  rcases hA with ⟨_, hc0⟩ | ⟨g, rfl, hg0, hg1⟩
  · exfalso; omega
  refine ⟨g, c, rfl, hlc, by simpa [maxLen] using hcm, fun i hi => ?_, hb0, HB0, hg0, hg1, ?_⟩
  · obtain ⟨ad, e1, hx⟩ := Kd.at_int HC i (by omega) (by omega)
    injection e1 with e1
    rw [← e1] at hx
    rcases Nat.eq_zero_or_pos i with rfl | hp
    · simpa [Addr.add] using hx
    · have hz : i ≠ 0 := by omega
      simpa [Addr.add, hz] using hx
  · have : wrap64 ((xs.length : Int) - 2) = (xs.length : Int) - 2 := by
      have h1 : xs.length ≤ 9223372036854775807 := Nat.le_trans hlc (by simpa [maxLen] using hcm)
      unfold wrap64
      omega
    exact this

theorem cell_b1 (w1 : World) (o1 : Obj) (u : Value) (t : TypeId) (o3 : Obj) : (((w1.alloc o1).alloc (.cells #[u] t)).alloc o3).cell? ⟨w1.heap.size + 1, 0, none⟩ = some u := by
  have h := blk_cell (blk_alloc (blk_new (w1.alloc o1) (.cells #[u] t)) o3) 0
  simpa using h
theorem cell_b2 (w1 : World) (o1 o2 : Obj) (u : Value) (t : TypeId) : (((w1.alloc o1).alloc o2).alloc (.cells #[u] t)).cell? ⟨w1.heap.size + 2, 0, none⟩ = some u := by
  have h := blk_cell (blk_new ((w1.alloc o1).alloc o2) (.cells #[u] t)) 0
  simpa using h

def calmB (o : Oper) : Bool :=
  match o.op with
  | .move _ | .load _ _ | .store _ _ _ | .build _ _ | .buildSlice _ _ _ | .fieldAddr _ _ _ | .indexAddr _ _ _ => true
  | .call c => match c.callee with | .builtin .append => true | _ => false
  | _ => false
theorem calm_of {P : Program} (o : Oper) (h : calmB o = true) : Calm P o := by
  unfold calmB at h
  cases ho : o.op <;> rw [ho] at h <;> simp only [Bool.false_eq_true] at h
  case move => exact calm_move ho
  case load => exact calm_load ho
  case store => exact calm_store ho
  case build => exact calm_build ho
  case buildSlice => exact calm_buildSlice ho
  case fieldAddr => exact calm_fieldAddr ho
  case indexAddr => exact calm_indexAddr ho
  case call c =>
    obtain ⟨ce, args, ts⟩ := c
    cases ce with
    | builtin b => cases b <;> simp only [Bool.false_eq_true] at h; exact calm_append ho
    | value v => simp at h
    | invoke r n => simp at h
theorem calm_all {P : Program} {ops : List Oper} (h : ops.all calmB = true) : ∀ (i : Nat) (o : Oper), ops.toArray[i]? = some o → Calm P o := fun i o ho =>
  calm_of o (List.all_eq_true.1 h o (List.mem_of_getElem? (by simpa using ho)))

/-- Between two rounds: the graph's block holds what has come. -/
def TopoI (x0 : Int) (bg : Nat) (w1 : World) (f : List Nat → List S60) (pre : List Nat) (W : World) : Prop :=
  (∃ v, W.heap[bg]? = some (.cells #[.int .i64 x0, v] 24 (0, 0)) ∧ Kd.R k60 60 W (bg + 3) (fun _ => True) v (f pre)) ∧ Below bg w1 W ∧ bg + 3 ≤ W.heap.size
theorem topoI_own (x0 : Int) (bg B : Nat) (w1 : World) (f : List Nat → List S60) (hB : bg + 3 ≤ B) : OwnFrom B (TopoI x0 bg w1 f) := by
  rintro pre W W' row ⟨⟨v, hb, HR⟩, hbl, h3⟩ hg hr
  refine ⟨⟨v, blk_grown hb hg (fun e => by have := (hr bg e.symm).1; omega), Kd.R_grown2 HR (by rfl) hg (fun k e e' => ?_)⟩, ?_, Nat.le_trans h3 hg.size⟩
  · obtain ⟨_, o, ho, hc⟩ := hr k e
    have := rcells HR k o e'.symm ho
    rw [hc] at this
    cases this
  · exact hbl.grown hg (by have := blk_lt hb; omega) (fun k e => by have := (hr k e).1; omega)
theorem topoI_step {x0 : Int} {bg : Nat} {w1 W w9 : World} {f : List Nat → List S60} {pre : List Nat} {x : Nat} {v v' : Value} (hb : W.heap[bg]? = some (.cells #[.int .i64 x0, v] 24 (0, 0))) (HR : Kd.R k60 60 W (bg + 3) (fun _ => True) v (f pre)) (hbl : Below bg w1 W) (h3 : bg + 3 ≤ W.heap.size)
    (HR' : Kd.R k60 60 w9 (bg + 3) (fun _ => True) v' (f (pre ++ [x]))) (hg : W.drew.grownBy w9 v.ownBlock) :
    KeepsFrom (bg + 3) W (w9.setCell ⟨bg, 1, none⟩ v') ∧ Boxes (bg + 1) W (w9.setCell ⟨bg, 1, none⟩ v') ∧ TopoI x0 bg w1 f (pre ++ [x]) (w9.setCell ⟨bg, 1, none⟩ v') := by
  have hbase := Kd.R_base HR
  have hg' : W.grownBy w9 v.ownBlock := ⟨hg.os, hg.tape, hg.output, hg.size, hg.block⟩
  have hb9 : w9.heap[bg]? = some (.cells #[.int .i64 x0, v] 24 (0, 0)) := blk_grown hb hg' (fun e => by have := hbase bg e.symm; omega)
  have hsame : ∀ k, k < bg + 3 → k ≠ bg → k < W.heap.size → (w9.setCell ⟨bg, 1, none⟩ v').heap[k]? = W.heap[k]? := fun k hk hne hlt => by
    rw [Below.heap_setCell w9 ⟨bg, 1, none⟩ v' k hne]
    exact hg'.block k hlt (fun e => by have := hbase k e.symm; omega)
  refine ⟨((KeepsOthers.of_grownBy hg' (fun j o ej hj => rcells HR j o ej hj)).trans (KeepsOthers.setCell _ _ _)).from _, ⟨?_, hsame (bg + 1) (by omega) (by omega) (by omega), hsame (bg + 2) (by omega) (by omega) (by omega)⟩, ⟨v', by simpa using blk_set hb9 1 v', ?_⟩, ?_, ?_⟩
  · have := hg'.size
    simpa using this
  · exact Kd.R_set HR' hb9 (fun q hq => by
      rcases List.mem_cons.1 hq with e | h
      · subst e; decide
      · cases h) 1 v'
  · exact (hbl.grown hg' (by omega) (fun k e => by have := hbase k e; omega)).setCell (p := ⟨bg, 1, none⟩) (Nat.le_refl _) _
  · have := hg'.size
    simp
    omega

set_option maxRecDepth 100000 in
set_option maxHeartbeats 8000000 in
theorem topo_Read.calls (k : Nat) (a0 : ByteArray) (r1 : Int) (r2 : List S60) (r3 : Int) (w : World) (h : topo_Read.f k a0 = some (r1, r2, r3)) :
    Calls Try.prog 19 #[.string a0] w fun e w' => ∃ v1_ : Value, e = .returned (.tuple #[.agg #[.int .i64 r1, v1_], .int .i64 r3]) ∧ Kd.R k60 60 w' w.heap.size (fun _ => True) v1_ r2 ∧ Below w.heap.size w w' := by
  unfold topo_Read.f at h
  cases hl : word_List.f k a0 with
  | none => rw [hl] at h; cases h
  | some p =>
  obtain ⟨xs, e0⟩ := p
  rw [hl] at h
  dsimp only [Option.bind_some] at h
  refine (callsIn_wide (n := 9)).1 ?_
  refine callsIn_of_wp_marks Try.func19 rfl trivial ?_ rfl
  simp only [Try.ntmps19, List.size_toArray, List.length_cons, List.length_nil, Nat.reduceAdd, Nat.reduceSub, Array.replicate_succ, Array.replicate_zero, List.push_toArray, List.append_toArray, List.nil_append, List.cons_append]
  by_cases he : e0 = 0
  case neg =>
    rw [if_neg (fun hh => he hh.1)] at h
    gi_wp2_with (refine ⟨trivial, ?_⟩; gi_at_call 36; refine (callsIn_wide.2 (word_List.calls k a0 xs e0 _ hl)).mono ?_; rintro e w1 ⟨v0, rfl, HX, HB⟩; obtain ⟨A, c, rfl, hlc, hcm, HC, hb0, HB0, hlt0, hA⟩ := arm_ HX HB; have c0 := blk_cell hb0 0; have c1 := blk_cell hb0 1; have f0 := blk_frozen hb0 0; have f1 := blk_frozen hb0 1; simp at c0 c1)
    exact endE _ rfl rfl hb0 HB0 h
  case pos =>
    by_cases h2 : xs.length < 2
    · rw [if_neg (fun hh => by have := hh.2; simp [formF] at this; omega)] at h
      have q2 : ((xs.length : Nat) : Int) < 2 := by omega
      gi_wp2_with (refine ⟨trivial, ?_⟩; gi_at_call 36; refine (callsIn_wide.2 (word_List.calls k a0 xs e0 _ hl)).mono ?_; rintro e w1 ⟨v0, rfl, HX, HB⟩; obtain ⟨A, c, rfl, hlc, hcm, HC, hb0, HB0, hlt0, hA⟩ := arm_ HX HB; have c0 := blk_cell hb0 0; have c1 := blk_cell hb0 1; have f0 := blk_frozen hb0 0; have f1 := blk_frozen hb0 1; simp at c0 c1)
      exact endE _ rfl rfl hb0 HB0 h
    · have q2 : decide (((xs.length : Nat) : Int) < 2) = false := by simp; omega
      have q1 : (1 : Int) < (xs.length : Int) := by omega
      have hL : 2 ≤ xs.length := by omega
      by_cases h3 : (xs.length - 2) % 3 = 0
      case neg =>
        rw [if_neg (fun hh => by have := hh.2; simp [formF] at this; omega)] at h
        have q3 : ¬ ((xs.length : Int) - 2).tmod 3 = 0 := by rw [Int.tmod_eq_emod_of_nonneg (by omega), rem3 _ (by omega)]; omega
        gi_wp2_with (refine ⟨trivial, ?_⟩; gi_at_call 36; refine (callsIn_wide.2 (word_List.calls k a0 xs e0 _ hl)).mono ?_; rintro e w1 ⟨v0, rfl, HX, HB⟩; obtain ⟨g, c, rfl, hlc, hcm, HC, hb0, HB0, hg0, hg1, hw2⟩ := arm2_ hL HX HB; have c0 := blk_cell hb0 0; have c1 := blk_cell hb0 1; have f0 := blk_frozen hb0 0; have f1 := blk_frozen hb0 1; simp at c0 c1; rw [← hw2] at q3)
        all_goals first | exact endE _ rfl rfl hb0 HB0 h | (trace_state; sorry)
      have q3 : ((xs.length : Int) - 2).tmod 3 = 0 := by rw [Int.tmod_eq_emod_of_nonneg (by omega), rem3 _ (by omega)]; omega
      by_cases h4 : (((xs.length - 2) / 3 : Nat) : Int) = rd xs 1
      case neg =>
        rw [if_neg (fun hh => by have := hh.2; simp [formF] at this; omega)] at h
        have q4 : ¬ (((xs.length : Int) - 2) / 3) = rd xs 1 := by rw [quo3 _ (by omega)]; simpa using h4
        gi_wp2_with (refine ⟨trivial, ?_⟩; gi_at_call 36; refine (callsIn_wide.2 (word_List.calls k a0 xs e0 _ hl)).mono ?_; rintro e w1 ⟨v0, rfl, HX, HB⟩; obtain ⟨g, c, rfl, hlc, hcm, HC, hb0, HB0, hg0, hg1, hw2⟩ := arm2_ hL HX HB; have c0 := blk_cell hb0 0; have c1 := blk_cell hb0 1; have f0 := blk_frozen hb0 0; have f1 := blk_frozen hb0 1; simp at c0 c1; have x1 := HC 1 (by omega); rw [← hw2] at q3)
        all_goals first | exact endE _ rfl rfl hb0 HB0 h | (trace_state; sorry)
      have hform : formF xs = true := by unfold formF; simp [hL, h3, h4]
      rw [if_pos ⟨he, hform⟩] at h
      have q4 : (((xs.length : Int) - 2) / 3) = rd xs 1 := by rw [quo3 _ (by omega)]; exact h4
      by_cases hbig : xs.length ≤ 1000000000000
      case neg => rw [if_neg hbig] at h; cases h
      rw [if_pos hbig] at h
      have hfin := h
      gi_wp2_with (refine ⟨trivial, ?_⟩; gi_at_call 36; refine (callsIn_wide.2 (word_List.calls k a0 xs e0 _ hl)).mono ?_; rintro e w1 ⟨v0, rfl, HX, HB⟩; obtain ⟨g, c, rfl, hlc, hcm, HC, hb0, HB0, hg0, hg1, hw2⟩ := arm2_ hL HX HB; have x1 := HC 1 (by omega); have x0 := HC 0 (by omega); rw [← hw2] at q3)
      all_goals
        refine ⟨trivial, ?_⟩
        gi_at_call 37
        refine (chunk_in Fence.wide _ trivial rfl _ _ _ _).mono ?_
        rintro e w3 ⟨rfl, rfl⟩
        gi_wp2
      all_goals
        obtain ⟨m, hm⟩ : ∃ m, xs.length - 2 = 3 * m := ⟨(xs.length - 2) / 3, by omega⟩
        rw [hm]
        refine' wpIn_rangeFunc_ownG rfl (by omega) (gf := 64) (lb := #[.pointer (some ⟨w1.heap.size + 1, 0, none⟩), .pointer (some ⟨w1.heap.size + 2, 0, none⟩)]) rfl trivial (enters_of Try.func64 (by kernel_rfl) rfl)
          (chunk_stops Fence.wide (9 - 1) trivial rfl (by omega) (w1.heap.size + 1) g _ m _ (by omega) _ (by simp) ?c0 ?c1 ?cp) (fun h k => Boxes.trans h k) ?kb (Below.refl _ _) (fun _ => rfl)
          (TopoI (rd xs 0) w1.heap.size w1 (fun pre => pre.map fun k => ⟨rd xs (2 + 3 * (k % m) : Nat), rd xs (3 + 3 * (k % m) : Nat), rd xs (4 + 3 * (k % m) : Nat)⟩)) (fun _ _ _ => False) (topoI_own _ _ _ _ _ (by simp)) (fun _ _ _ _ _ h _ _ => h) ?h0 _ ?assign ?body ?done ?stop
        case c0 => exact cell_b1 _ _ _ _ _
        case c1 => exact cell_b2 _ _ _ _ _
        case cp => omega
        case kb =>
          intro W l' o o' hl' _ _ _
          have hl2 : w1.heap.size + 3 ≤ l' := by simpa using hl'
          exact ⟨by simp, World.putObj_heap_other (by omega), World.putObj_heap_other (by omega)⟩
        case h0 =>
          exact ⟨⟨_, blk_alloc (blk_alloc (blk_new w1 _) _) _, Kd.R_nil _ _ _ _ _⟩, (((Below.refl w1.heap.size w1).alloc (Nat.le_refl _) _).alloc (by simp) _).alloc (by simp; omega) _, by simp⟩
        case assign =>
          intro l x W K hK
          gi_wp2
          exact hK
        case stop => intro D c pre W _ _ h; exact h.elim
        case done =>
          rintro D ys W hD rfl ⟨⟨v, hb, HR⟩, hbl, hsz⟩ hK
          dsimp only at HR
          rw [links_drop m xs hm hL] at HR
          obtain ⟨A9, c9, rfl, hlc9, HC9⟩ := Kd.R_reads HR
          have z0 := blk_cell hb 0
          have z1 := blk_cell hb 1
          simp at z0 z1
          have hD' : w1.heap.size + 3 ≤ D := by simpa using hD
          have hDW : D < W.heap.size := (Array.getElem?_eq_some_iff.1 hK).1
          have HBW : Below w.heap.size w W := HB0.trans (hbl.mono (by omega))
          cases hmay : graph_May.f k (rd xs 0) (linksF (xs.drop 2)) with
          | none => rw [hmay] at hfin; cases hfin
          | some t =>
          rw [hmay] at hfin
          dsimp only [Option.bind_some] at hfin
          cases t with
          | false =>
            rw [if_neg (by decide)] at hfin
            simp only [Option.some.injEq, Prod.mk.injEq] at hfin
            obtain ⟨rfl, rfl, rfl⟩ := hfin
            gi_wp2_with (refine ⟨trivial, ?_⟩; gi_at_call 33; refine (callsIn_wide.2 (graph_May.calls k (rd xs 0) A9 c9 (linksF (xs.drop 2)) false _ HC9 hlc9 hmay)).mono ?_; rintro e w5 ⟨rfl, HB5⟩; have b5 : w5.heap[w.heap.size]? = some (.cells #[.int .i64 0, .slice none 0 0] 24 (0, 0)) := blk_below ((hbl.block _ (by omega)).trans hb0) HB5; have y0 := blk_cell b5 0; have y1 := blk_cell b5 1; have g0 := blk_frozen b5 0; have g1 := blk_frozen b5 1; simp at y0 y1)
            have HB6 : Below w.heap.size w w5 := HBW.trans (HB5.mono (by have := HBW.size; omega))
            have hK5 : w5.heap[D]? = some (.deferred (some [])) := (HB5.block D hDW).trans hK
            exact endD _ rfl rfl (by simpa using blk_set (blk_set b5 0 _) 1 _) (Kd.R_nil _ _ _ _ _) ((HB6.setCell (p := ⟨w.heap.size, 0, none⟩) (Nat.le_refl _) _).setCell (p := ⟨w.heap.size, 1, none⟩) (Nat.le_refl _) _) (((Below.heap_setCell _ _ _ D (by show D ≠ w.heap.size; omega)).trans (Below.heap_setCell _ _ _ D (by show D ≠ w.heap.size; omega))).trans hK5) (by omega)
          | true =>
            rw [if_pos rfl] at hfin
            simp only [Option.some.injEq, Prod.mk.injEq] at hfin
            obtain ⟨rfl, rfl, rfl⟩ := hfin
            gi_wp2_with (refine ⟨trivial, ?_⟩; gi_at_call 33; refine (callsIn_wide.2 (graph_May.calls k (rd xs 0) A9 c9 (linksF (xs.drop 2)) true _ HC9 hlc9 hmay)).mono ?_; rintro e w5 ⟨rfl, HB5⟩; have b5 : w5.heap[w.heap.size]? = some (.cells #[.int .i64 0, .slice none 0 0] 24 (0, 0)) := blk_below ((hbl.block _ (by omega)).trans hb0) HB5; have bb5 := blk_below hb HB5; have y0 := blk_cell b5 0; have y1 := blk_cell b5 1; have g0 := blk_frozen b5 0; have g1 := blk_frozen b5 1; have v0 := blk_cell bb5 0; have v1 := blk_cell bb5 1; simp at y0 y1 v0 v1)
            have HR5 := Kd.R_below (Kd.R_lower HR (base' := w.heap.size) (by omega)) HB5
            have ht : ∀ q, q ∈ 60 :: k60.E → q ≠ 24 := (fun q hq => by
                rcases List.mem_cons.1 hq with e | h
                · subst e; decide
                · cases h)
            have HB6 : Below w.heap.size w w5 := HBW.trans (HB5.mono (by have := HBW.size; omega))
            have hK5 : w5.heap[D]? = some (.deferred (some [])) := (HB5.block D hDW).trans hK
            exact endD _ rfl rfl (by simpa using blk_set (blk_set b5 0 _) 1 _) (Kd.R_set (Kd.R_set HR5 b5 ht 0 _) (blk_set b5 0 _) ht 1 _) ((HB6.setCell (p := ⟨w.heap.size, 0, none⟩) (Nat.le_refl _) _).setCell (p := ⟨w.heap.size, 1, none⟩) (Nat.le_refl _) _) (((Below.heap_setCell _ _ _ D (by show D ≠ w.heap.size; omega)).trans (Below.heap_setCell _ _ _ D (by show D ≠ w.heap.size; omega))).trans hK5) (by omega)
        case body =>
          rintro l pre x W ⟨⟨v, hb, HR⟩, hbl, hsz⟩ hlen
          (try (exfalso; omega))
          all_goals
            have hx : x % m < m := Nat.mod_lt _ (by omega)
            refine wpIn_block ?_
            obtain ⟨y, hy⟩ : ∃ y, 2 + 3 * (x % m) = y := ⟨_, rfl⟩
            have ev : chunkV g 2 (x % m) = .slice (some ⟨g, y, none⟩) 3 3 := by rw [← hy]; rfl
            rw [ev]
            have y0 := HC y (by omega)
            have y1 := HC (y + 1) (by omega)
            have y2 := HC (y + 2) (by omega)
            have z0 : W.cell? ⟨g, y, none⟩ = some (.int .i64 (rd xs (y : Nat))) := (hbl.cell (p := ⟨g, y, none⟩) hg1).trans y0
            have z1 : W.cell? ⟨g, y + 1, none⟩ = some (.int .i64 (rd xs (y + 1 : Nat))) := (hbl.cell (p := ⟨g, y + 1, none⟩) hg1).trans y1
            have z2 : W.cell? ⟨g, y + 2, none⟩ = some (.int .i64 (rd xs (y + 2 : Nat))) := (hbl.cell (p := ⟨g, y + 2, none⟩) hg1).trans y2
            have zb : W.cell? ⟨w1.heap.size, 1, none⟩ = some v := blk_cell hb 1
            refine wpIn_region_calm (fun W' => W'.cell? ⟨g, y, none⟩ = some (.int .i64 (rd xs (y : Nat))) ∧ W'.cell? ⟨g, y + 1, none⟩ = some (.int .i64 (rd xs (y + 1 : Nat))) ∧ W'.cell? ⟨g, y + 2, none⟩ = some (.int .i64 (rd xs (y + 2 : Nat)))) (by kernel_rfl) ?_ (calm_all (by kernel_rfl)) ⟨z0, z1, z2⟩ (fun hHeld => ?_)
            · rintro ⟨a, w, h⟩
              exact h
            refine wpAnyH_take (i := 0) (v := ?_) rfl (by kernel_rfl) (by kernel_rfl) (by kernel_rfl) (fun _ _ _ h => h) (Or.inl ⟨by rfl, ?_⟩) (by assumption) ?_
            rotate_left
            · intro w hSw; (try dsimp only at hSw); go_simp; (try with_reducible rfl)
            (try simp only [Act.put, List.setIfInBounds_toArray, List.set_cons_zero, List.set_cons_succ])
            refine wpAnyH_take (i := 2) (v := ?_) rfl (by kernel_rfl) (by kernel_rfl) (by kernel_rfl) (fun _ _ _ h => h) (Or.inl ⟨by rfl, ?_⟩) (by assumption) ?_
            rotate_left
            · intro w hSw; (try dsimp only at hSw); go_simp; (try with_reducible rfl)
            (try simp only [Act.put, List.setIfInBounds_toArray, List.set_cons_zero, List.set_cons_succ])
            refine wpAnyH_take (i := 3) (v := ?_) rfl (by kernel_rfl) (by kernel_rfl) (by kernel_rfl) (fun _ _ _ h => h) (Or.inl ⟨by rfl, ?_⟩) (by assumption) ?_
            rotate_left
            · intro w hSw; (try dsimp only at hSw); go_simp; (try with_reducible rfl)
            (try simp only [Act.put, List.setIfInBounds_toArray, List.set_cons_zero, List.set_cons_succ])
            refine wpAnyH_take (i := 4) (v := ?_) rfl (by kernel_rfl) (by kernel_rfl) (by kernel_rfl) (fun _ _ _ h => h) (Or.inl ⟨by rfl, ?_⟩) (by assumption) ?_
            rotate_left
            · intro w hSw; (try dsimp only at hSw); go_simp; (try with_reducible rfl)
            (try simp only [Act.put, List.setIfInBounds_toArray, List.set_cons_zero, List.set_cons_succ])
            refine wpAnyH_take (i := 5) (v := ?_) rfl (by kernel_rfl) (by kernel_rfl) (by kernel_rfl) (fun _ _ _ h => h) (Or.inl ⟨by rfl, ?_⟩) (by assumption) ?_
            rotate_left
            · intro w hSw; (try dsimp only at hSw); go_simp; (try with_reducible rfl)
            (try simp only [Act.put, List.setIfInBounds_toArray, List.set_cons_zero, List.set_cons_succ])
            refine wpAnyH_take (i := 6) (v := ?_) rfl (by kernel_rfl) (by kernel_rfl) (by kernel_rfl) (fun _ _ _ h => h) (Or.inl ⟨by rfl, ?_⟩) (by assumption) ?_
            rotate_left
            · intro w hSw; (try dsimp only at hSw); go_simp; (try with_reducible rfl)
            (try simp only [Act.put, List.setIfInBounds_toArray, List.set_cons_zero, List.set_cons_succ])
            refine wpAnyH_take (i := 7) (v := ?_) rfl (by kernel_rfl) (by kernel_rfl) (by kernel_rfl) (fun _ _ _ h => h) (Or.inl ⟨by rfl, ?_⟩) (by assumption) ?_
            rotate_left
            · intro w hSw; (try dsimp only at hSw); go_simp; (try with_reducible rfl)
            (try simp only [Act.put, List.setIfInBounds_toArray, List.set_cons_zero, List.set_cons_succ])
            refine wpAnyH_take (i := 8) (v := ?_) rfl (by kernel_rfl) (by kernel_rfl) (by kernel_rfl) (fun _ _ _ h => h) (Or.inl ⟨by rfl, ?_⟩) (by assumption) ?_
            rotate_left
            · intro w hSw; (try dsimp only at hSw); go_simp; (try with_reducible rfl)
            (try simp only [Act.put, List.setIfInBounds_toArray, List.set_cons_zero, List.set_cons_succ])
            refine wpAnyH_take (i := 9) (v := ?_) rfl (by kernel_rfl) (by kernel_rfl) (by kernel_rfl) (fun _ _ _ h => h) (Or.inl ⟨by rfl, ?_⟩) (by assumption) ?_
            rotate_left
            · intro w hSw; (try dsimp only at hSw); go_simp; (try with_reducible rfl)
            (try simp only [Act.put, List.setIfInBounds_toArray, List.set_cons_zero, List.set_cons_succ])
            refine wpAnyH_take (i := 10) (v := ?_) rfl (by kernel_rfl) (by kernel_rfl) (by kernel_rfl) (fun _ _ _ h => h) (Or.inl ⟨by rfl, ?_⟩) (by assumption) ?_
            rotate_left
            · intro w hSw; (try dsimp only at hSw); go_simp; (try with_reducible rfl)
            (try simp only [Act.put, List.setIfInBounds_toArray, List.set_cons_zero, List.set_cons_succ])
            refine wpAnyH_take (i := 11) (v := ?_) rfl (by kernel_rfl) (by kernel_rfl) (by kernel_rfl) (fun _ _ _ h => h) (Or.inl ⟨by rfl, ?_⟩) (by assumption) ?_
            rotate_left
            · intro w hSw; (try dsimp only at hSw); go_simp; (try with_reducible rfl)
            (try simp only [Act.put, List.setIfInBounds_toArray, List.set_cons_zero, List.set_cons_succ])
            have hgW : g < W.heap.size := by have := hbl.size; omega
            have a0_ : ∀ o, (W.alloc o).cell? ⟨g, y, none⟩ = some (.int .i64 (rd xs (y : Nat))) := fun o => (World.cell?_alloc_lt _ _ _ hgW).trans z0
            have a1_ : ∀ o, (W.alloc o).cell? ⟨g, y + 1, none⟩ = some (.int .i64 (rd xs (y + 1 : Nat))) := fun o => (World.cell?_alloc_lt _ _ _ hgW).trans z1
            have a2_ : ∀ o, (W.alloc o).cell? ⟨g, y + 2, none⟩ = some (.int .i64 (rd xs (y + 2 : Nat))) := fun o => (World.cell?_alloc_lt _ _ _ hgW).trans z2
            have ab_ : ∀ o, (W.alloc o).cell? ⟨w1.heap.size, 1, none⟩ = some v := fun o => (World.cell?_alloc_lt _ _ _ (blk_lt hb)).trans zb
            have abd_ : ∀ o, (W.alloc o).drew.cell? ⟨w1.heap.size, 1, none⟩ = some v := ab_
            refine wpAnyH_ready (rs := [1, 12]) (by kernel_rfl) (by simp) ?_
            refine AllReadyH.cons rfl (fun K hK => ?_) (AllReadyH.cons rfl (fun K hK => ?_) AllReadyH.nil)
            · go_simp
              refine hK.out _ _ ⟨z0, z1, z2⟩ (fun hHeld => ?_)
              clear hK K
              (try simp only [Act.put, List.setIfInBounds_toArray, List.set_cons_zero, List.set_cons_succ])
              refine wpAnyH_ready (rs := [12]) (by kernel_rfl) (by simp) ?_
              refine AllReadyH.cons rfl (fun K hK => ?_) AllReadyH.nil
              go_simp
              refine hK.out _ _ ⟨a0_ _, a1_ _, a2_ _⟩ (fun hHeld => ?_)
              clear hK K
              (try simp only [Act.put, List.setIfInBounds_toArray, List.set_cons_zero, List.set_cons_succ])
              refine wpAnyH_ready (rs := [13]) (by kernel_rfl) (by simp) ?_
              refine AllReadyH.cons rfl (fun K hK => ?_) AllReadyH.nil
              refine Kd.R_append_step k60 (w0 := W) (W := W.drew) (w1.heap.size + 3) (by rfl) (.tmp 47) (.tmp 58) 22 60 (.agg #[(.int .i64 0), (.int .i64 0), (.int .i64 0)]) 24 rfl Try.underlying22 info60 rfl (by decide) (by omega) v (pre.map fun k => ⟨rd xs (2 + 3 * (k % m) : Nat), rd xs (3 + 3 * (k % m) : Nat), rd xs (4 + 3 * (k % m) : Nat)⟩) ⟨rd xs (y : Nat), rd xs (y + 1 : Nat), rd xs (y + 2 : Nat)⟩ [.int .i64 (rd xs (y : Nat)), .int .i64 (rd xs (y + 1 : Nat)), .int .i64 (rd xs (y + 2 : Nat))] (fun _ => True) (fun _ => False) rfl rfl (k60_mkM _ _ _ _) (fun _ h => h.elim) (fun _ _ => trivial) (Kd.R_drew HR) ((Below.refl _ W).drew) hsz (by simp; omega) ?_
              intro v' w9 HR9 hb9 hg9 hat9
              obtain ⟨A9, c9, rfl⟩ := Kd.R_slice HR9
              have hne9 : ∀ k, v.ownBlock = some k → w1.heap.size + 3 ≤ k := Kd.R_base HR
              have d0 : w9.cell? ⟨g, y, none⟩ = some (.int .i64 (rd xs (y : Nat))) := cell_grown hg9 z0 (fun e => by have := hne9 g e.symm; omega)
              have d1 : w9.cell? ⟨g, y + 1, none⟩ = some (.int .i64 (rd xs (y + 1 : Nat))) := cell_grown hg9 z1 (fun e => by have := hne9 g e.symm; omega)
              have d2 : w9.cell? ⟨g, y + 2, none⟩ = some (.int .i64 (rd xs (y + 2 : Nat))) := cell_grown hg9 z2 (fun e => by have := hne9 g e.symm; omega)
              have b9 : w9.heap[w1.heap.size]? = some (.cells #[.int .i64 (rd xs 0), v] 24 (0, 0)) := blk_grown (w := W.drew) hb hg9 (fun e => by have := hne9 _ e.symm; omega)
              have cb9 : w9.cell? ⟨w1.heap.size, 1, none⟩ = some v := blk_cell b9 1
              have fb9 : w9.frozen? ⟨w1.heap.size, 1, none⟩ = false := blk_frozen b9 1
              refine hK.out _ _ ⟨d0, d1, d2⟩ (fun hHeld => ?_)
              clear hK K
              (try simp only [Act.put, List.setIfInBounds_toArray, List.set_cons_zero, List.set_cons_succ])
              refine wpAnyH_take (i := 14) (v := ?_) rfl (by kernel_rfl) (by kernel_rfl) (by kernel_rfl) (fun _ _ _ h => h) (Or.inl ⟨by rfl, ?_⟩) (by assumption) ?_
              rotate_left
              · intro w hSw; (try dsimp only at hSw); go_simp; (try with_reducible rfl)
              (try simp only [Act.put, List.setIfInBounds_toArray, List.set_cons_zero, List.set_cons_succ])
              refine wpAnyH_ready (rs := [15]) (by kernel_rfl) (by simp) ?_
              refine AllReadyH.cons rfl (fun K hK => ?_) AllReadyH.nil
              go_simp
              refine hK.out _ _ ⟨?_, ?_, ?_⟩ (fun hHeld => ?_)
              · exact (World.cell?_setCell_far _ _ _ _ (by show w1.heap.size ≠ g; omega)).trans d0
              · exact (World.cell?_setCell_far _ _ _ _ (by show w1.heap.size ≠ g; omega)).trans d1
              · exact (World.cell?_setCell_far _ _ _ _ (by show w1.heap.size ≠ g; omega)).trans d2
              refine wpAnyH_done (by kernel_rfl) ?_ _
              have T := topoI_step (f := fun pre => pre.map fun k => ⟨rd xs (2 + 3 * (k % m) : Nat), rd xs (3 + 3 * (k % m) : Nat), rd xs (4 + 3 * (k % m) : Nat)⟩) hb HR hbl hsz (by rw [List.map_append, List.map_singleton, hy, show 3 + 3 * (x % m) = y + 1 by omega, show 4 + 3 * (x % m) = y + 2 by omega]; exact HR9) hg9
              simp only [List.length_append, List.length_map, List.length_cons, List.length_nil, Nat.zero_add] at T
              refine ⟨?_, T.2.1, T.2.2⟩
              rw [World.size_alloc, World.size_alloc, World.size_alloc]
              exact T.1
            · go_simp
              refine hK.out _ _ ⟨a0_ _, a1_ _, a2_ _⟩ (fun hHeld => ?_)
              clear hK K
              (try simp only [Act.put, List.setIfInBounds_toArray, List.set_cons_zero, List.set_cons_succ])
              refine wpAnyH_ready (rs := [1]) (by kernel_rfl) (by simp) ?_
              refine AllReadyH.cons rfl (fun K hK => ?_) AllReadyH.nil
              go_simp
              refine hK.out _ _ ⟨a0_ _, a1_ _, a2_ _⟩ (fun hHeld => ?_)
              clear hK K
              (try simp only [Act.put, List.setIfInBounds_toArray, List.set_cons_zero, List.set_cons_succ])
              refine wpAnyH_ready (rs := [13]) (by kernel_rfl) (by simp) ?_
              refine AllReadyH.cons rfl (fun K hK => ?_) AllReadyH.nil
              refine Kd.R_append_step k60 (w0 := W) (W := W.drew) (w1.heap.size + 3) (by rfl) (.tmp 47) (.tmp 58) 22 60 (.agg #[(.int .i64 0), (.int .i64 0), (.int .i64 0)]) 24 rfl Try.underlying22 info60 rfl (by decide) (by omega) v (pre.map fun k => ⟨rd xs (2 + 3 * (k % m) : Nat), rd xs (3 + 3 * (k % m) : Nat), rd xs (4 + 3 * (k % m) : Nat)⟩) ⟨rd xs (y : Nat), rd xs (y + 1 : Nat), rd xs (y + 2 : Nat)⟩ [.int .i64 (rd xs (y : Nat)), .int .i64 (rd xs (y + 1 : Nat)), .int .i64 (rd xs (y + 2 : Nat))] (fun _ => True) (fun _ => False) rfl rfl (k60_mkM _ _ _ _) (fun _ h => h.elim) (fun _ _ => trivial) (Kd.R_drew HR) ((Below.refl _ W).drew) hsz (by simp; omega) ?_
              intro v' w9 HR9 hb9 hg9 hat9
              obtain ⟨A9, c9, rfl⟩ := Kd.R_slice HR9
              have hne9 : ∀ k, v.ownBlock = some k → w1.heap.size + 3 ≤ k := Kd.R_base HR
              have d0 : w9.cell? ⟨g, y, none⟩ = some (.int .i64 (rd xs (y : Nat))) := cell_grown hg9 z0 (fun e => by have := hne9 g e.symm; omega)
              have d1 : w9.cell? ⟨g, y + 1, none⟩ = some (.int .i64 (rd xs (y + 1 : Nat))) := cell_grown hg9 z1 (fun e => by have := hne9 g e.symm; omega)
              have d2 : w9.cell? ⟨g, y + 2, none⟩ = some (.int .i64 (rd xs (y + 2 : Nat))) := cell_grown hg9 z2 (fun e => by have := hne9 g e.symm; omega)
              have b9 : w9.heap[w1.heap.size]? = some (.cells #[.int .i64 (rd xs 0), v] 24 (0, 0)) := blk_grown (w := W.drew) hb hg9 (fun e => by have := hne9 _ e.symm; omega)
              have cb9 : w9.cell? ⟨w1.heap.size, 1, none⟩ = some v := blk_cell b9 1
              have fb9 : w9.frozen? ⟨w1.heap.size, 1, none⟩ = false := blk_frozen b9 1
              refine hK.out _ _ ⟨d0, d1, d2⟩ (fun hHeld => ?_)
              clear hK K
              (try simp only [Act.put, List.setIfInBounds_toArray, List.set_cons_zero, List.set_cons_succ])
              refine wpAnyH_take (i := 14) (v := ?_) rfl (by kernel_rfl) (by kernel_rfl) (by kernel_rfl) (fun _ _ _ h => h) (Or.inl ⟨by rfl, ?_⟩) (by assumption) ?_
              rotate_left
              · intro w hSw; (try dsimp only at hSw); go_simp; (try with_reducible rfl)
              (try simp only [Act.put, List.setIfInBounds_toArray, List.set_cons_zero, List.set_cons_succ])
              refine wpAnyH_ready (rs := [15]) (by kernel_rfl) (by simp) ?_
              refine AllReadyH.cons rfl (fun K hK => ?_) AllReadyH.nil
              go_simp
              refine hK.out _ _ ⟨?_, ?_, ?_⟩ (fun hHeld => ?_)
              · exact (World.cell?_setCell_far _ _ _ _ (by show w1.heap.size ≠ g; omega)).trans d0
              · exact (World.cell?_setCell_far _ _ _ _ (by show w1.heap.size ≠ g; omega)).trans d1
              · exact (World.cell?_setCell_far _ _ _ _ (by show w1.heap.size ≠ g; omega)).trans d2
              refine wpAnyH_done (by kernel_rfl) ?_ _
              have T := topoI_step (f := fun pre => pre.map fun k => ⟨rd xs (2 + 3 * (k % m) : Nat), rd xs (3 + 3 * (k % m) : Nat), rd xs (4 + 3 * (k % m) : Nat)⟩) hb HR hbl hsz (by rw [List.map_append, List.map_singleton, hy, show 3 + 3 * (x % m) = y + 1 by omega, show 4 + 3 * (x % m) = y + 2 by omega]; exact HR9) hg9
              simp only [List.length_append, List.length_map, List.length_cons, List.length_nil, Nat.zero_add] at T
              refine ⟨?_, T.2.1, T.2.2⟩
              rw [World.size_alloc, World.size_alloc, World.size_alloc]
              exact T.1
end Go.Proofs.Yteikgpdjfhdneaa.Man
