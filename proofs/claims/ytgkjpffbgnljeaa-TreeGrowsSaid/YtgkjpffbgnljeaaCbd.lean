/- Texts of this claim laid together: Open. -/
import Derived.Test.YtgkjpffbgnljeaaRows
import Derived.OpenShut
import Derived.Test.YtgkjpffbgnljeaaCbc
/- How arguments read as data: each kind of value that the form's reader meets is read as a list, a number, a struct of them; with its bounds, and with its bulk. -/
set_option linter.unusedVariables false
namespace Go.Proofs.Ytgkjpffbgnljeaa.Op
open Go.RowKit Go.Proofs.YtgkjpffbgnljeaaW.PrintWords Go.Proofs.YtgkjpffbgnljeaaW.PrintLast Go.Proofs.YtgkjpffbgnljeaaW.PrintMore
def Opens (P : Program) (t : TypeId) {α : Type} (d : Kd α) (I : α → Prop) (B : α → Nat) : Prop :=
 ∀ {H : Type} (enc : TypeId × Value → H) (w : World) (fuel : Nat) (cs : List Value) (x : DataW H × List MemPlace),
  DataW.trod enc P w 0 (fun _ => true) true fuel t cs = some x → (∀ n ∈ x.1.weights P t, n ≤ reachBytes) →
  ∃ a : α, d.K w a cs ∧ I a ∧ B a ≤ Rows.uptoBulk x.1
theorem opens_int {P : Program} {t : TypeId} {k : IntKind} (ht : P.underlying t = some (.int k)) : Opens P t (Kd.int k) (fun n => (Lit.int k n).wf = true) (fun _ => 1) := by
 intro H enc w fuel cs x h _
 obtain ⟨n, rfl, rfl, hw⟩ := DataW.trod_int ht h
 exact ⟨n, rfl, hw, by simp [Rows.uptoBulk]⟩
theorem weights_all {H : Type} {P : Program} {e : TypeId} {l : List (DataW H)} {d : DataW H} (hd : d ∈ l) : ∀ n ∈ d.weights P e, n ∈ DataW.weightsAll P e l := by
 intro n hn
 induction l with
 | nil => cases hd
 | cons x r ih =>
  simp only [DataW.weightsAll, List.mem_append]
  rcases List.mem_cons.1 hd with rfl | h
  ·exact .inl hn
  ·exact .inr (ih h)
theorem opens_elems {H : Type} {enc : TypeId × Value → H} {P : Program} {w : World} {e : TypeId} {α : Type} {d : Kd α} {I : α → Prop} {B : α → Nat} (he : Opens P e d I B) (hc : P.cellsOf e = d.sz) (ad : Addr) (n : Nat) :
  ∀ (elems : List (DataW H × List MemPlace)) (o : Nat), (∀ y ∈ elems, ∀ m ∈ y.1.weights P e, m ≤ reachBytes) →
   (∀ i, i < elems.length → (w.cells? 0 (ad.add ((o + i) * P.cellsOf e)) (P.cellsOf e)).bind (DataW.trod enc P w 0 (fun _ => true) true n e) = elems[i]?) →
   ∃ xs : List α, xs.length = elems.length ∧ (∀ x ∈ xs, I x) ∧ (xs.map B).sum ≤ Rows.uptoBulkAll (elems.map (·.1)) ∧
    ∀ j p, xs[j]? = some p → ∃ c, c.length = d.sz ∧ d.K w p c ∧ ∀ i u, c[i]? = some u → w.cell? (ad.add ((o + j) * d.sz + i)) = some u
 | [], o, _, _ => ⟨[], rfl, by simp, by simp [Rows.uptoBulkAll], by simp⟩
 | y :: r, o, hz, hel => by
  obtain ⟨xs, hl, hI, hB, hx⟩ := opens_elems he hc ad n r (o + 1) (fun z hz' => hz z (List.mem_cons_of_mem _ hz')) (fun i hi => by
   have := hel (i + 1) (by simp; omega)
   rw [show o + (i + 1) = o + 1 + i by omega] at this
   simpa using this)
  have h0 := hel 0 (by simp)
  simp only [Nat.add_zero, List.getElem?_cons_zero, Option.bind_eq_some_iff] at h0
  obtain ⟨c, hcs, ht⟩ := h0
  obtain ⟨_, hcl, hcell⟩ := World.cells?_some hcs
  obtain ⟨a, hK, hIa, hBa⟩ := he enc w n c y ht (hz y (List.mem_cons_self ..))
  refine ⟨a :: xs, by simp [hl], ?_, ?_, ?_⟩
  ·intro x hx
   rcases List.mem_cons.1 hx with rfl | h
   ·exact hIa
   ·exact hI x h
  ·simp only [List.map_cons, List.sum_cons, Rows.uptoBulkAll]
   omega
  ·intro j p hj
   cases j with
   | zero =>
    simp only [List.getElem?_cons_zero, Option.some.injEq] at hj
    subst hj
    refine ⟨c, by rw [hcl, hc], hK, fun i u hu => ?_⟩
    have hi : i < P.cellsOf e := by rw [← hcl]; exact (List.getElem?_eq_some_iff.1 hu).1
    have := hcell i hi
    rw [hu] at this
    rw [← this, Nat.add_zero, hc]
    congr 1
    unfold Addr.add
    by_cases hm : o * d.sz = 0
    ·simp [hm]
    ·by_cases hi0 : i = 0
     ·simp [hm, hi0]
     ·simp [hm, hi0, Nat.add_assoc]
   | succ j =>
    simp only [List.getElem?_cons_succ] at hj
    obtain ⟨c', h1, h2, h3⟩ := hx j p hj
    exact ⟨c', h1, h2, fun i u hu => by rw [show o + (j + 1) = o + 1 + j by omega]; exact h3 i u hu⟩
theorem opens_slice {P : Program} {t e : TypeId} {α : Type} {d : Kd α} {I : α → Prop} {B : α → Nat} (ht : P.underlying t = some (.slice e)) {m : Nat} (hm : P.bytesOf e = m) (he : Opens P e d I B) (hc : P.cellsOf e = d.sz) :
  Opens P t (Kd.slice e d) (fun xs => (∀ x ∈ xs, I x) ∧ xs.length * m ≤ 140737488351232) (fun xs => (xs.map B).sum + 1) := by
 subst hm
 intro H enc w fuel cs x h hz
 rcases DataW.trod_slice ht h with ⟨rfl, rfl⟩ | ⟨ad, len, cap, elems, rest, n, rfl, rfl, rfl, hb, hl, hm, hlen, hel, hsp, hns⟩
 ·refine ⟨[], ⟨none, 0, rfl, by simp, ?_⟩, ⟨by simp, by simp⟩, by simp [Rows.uptoBulk]⟩
  exact Kd.C_nil d w
 ·simp only [DataW.weights, ht] at hz
  obtain ⟨xs, hxl, hI, hB, hx⟩ := opens_elems (enc := enc) (w := w) he hc ad n elems 0 (fun y hy m hm => hz m (by
   refine List.mem_cons_of_mem _ (List.mem_append_left _ (weights_all (List.mem_map.2 ⟨y, hy, rfl⟩) m hm)))) (fun i hi => by rw [Nat.zero_add]; exact hel i (by omega))
  refine ⟨xs, ⟨some ad, cap, by rw [hxl, hlen], by rw [hxl, hlen]; exact hl, rfl, ?_, fun _ => ⟨ad, rfl, fun j p hj => ?_⟩⟩, ⟨hI, ?_⟩, ?_⟩
  ·rw [hxl, hlen]; simp only [maxLen] at hm; omega
  ·have := hx j p hj
   rw [Nat.zero_add] at this
   exact this
  ·have := hz _ (List.mem_cons_self ..)
   simp only [List.length_map, reachBytes] at this
   have h2 : xs.length * P.bytesOf e ≤ (elems.length + rest.length) * P.bytesOf e := Nat.mul_le_mul_right _ (by omega)
   omega
  ·simp only [Rows.uptoBulk]
   omega
def OpensF (P : Program) (fs : List Field) (off : Nat) {α : Type} (d : Kd α) (I : α → Prop) (B : α → Nat) : Prop :=
 ∀ {H : Type} (enc : TypeId × Value → H) (w : World) (n : Nat) (cs : List Value) (xs : List (DataW H × List MemPlace)), cs.length = off + d.sz → xs.length = fs.length →
  (∀ (i : Nat) (f : Field), fs[i]? = some f → DataW.trod enc P w 0 (fun _ => true) true n f.type ((cs.drop f.offset).take (P.cellsOf f.type)) = xs[i]?) →
  (∀ m ∈ DataW.weightsEach P (fs.map (·.type)) (xs.map (·.1)), m ≤ reachBytes) →
  ∃ a : α, d.K w a (cs.drop off) ∧ I a ∧ B a ≤ Rows.uptoBulkAll (xs.map (·.1))
theorem opens_last {P : Program} {f : Field} {off : Nat} {α : Type} {d : Kd α} {I : α → Prop} {B : α → Nat} (ho : f.offset = off) (hc : P.cellsOf f.type = d.sz) (h : Opens P f.type d I B) : OpensF P [f] off d I B := by
 intro H enc w n cs xs hcs hxs ht hz
 obtain ⟨x, rfl⟩ : ∃ x, xs = [x] := by
  match xs, hxs with
  | [x], _ => exact ⟨x, rfl⟩
 have h0 := ht 0 f rfl
 rw [ho, hc, List.take_of_length_le (by rw [List.length_drop]; omega)] at h0
 obtain ⟨a, hK, hI, hB⟩ := h enc w n _ x h0 (fun m hm => hz m (by simp [DataW.weightsEach, hm]))
 exact ⟨a, hK, hI, by simpa [Rows.uptoBulkAll] using hB⟩
theorem opens_cons {P : Program} {f : Field} {fs : List Field} {off : Nat} {α β : Type} {d : Kd α} {d' : Kd β} {I : α → Prop} {I' : β → Prop} {B : α → Nat} {B' : β → Nat} (ho : f.offset = off) (hc : P.cellsOf f.type = d.sz) (h : Opens P f.type d I B)
  (h' : OpensF P fs (off + d.sz) d' I' B') : OpensF P (f :: fs) off (Kd.pair d d') (fun p => I p.1 ∧ I' p.2) (fun p => B p.1 + B' p.2) := by
 intro H enc w n cs xs hcs hxs ht hz
 obtain ⟨x, r, rfl⟩ : ∃ x r, xs = x :: r := by
  match xs, hxs with
  | x :: r, _ => exact ⟨x, r, rfl⟩
 have hcs' : cs.length = off + (d.sz + d'.sz) := hcs
 have h0 := ht 0 f rfl
 rw [ho, hc] at h0
 obtain ⟨a, hK, hI, hB⟩ := h enc w n _ x h0 (fun m hm => hz m (by simp [DataW.weightsEach, hm]))
 obtain ⟨b, hK', hI', hB'⟩ := h' enc w n cs r (by omega) (by simpa using hxs) (fun i g hg => by have := ht (i + 1) g (by simpa using hg); simpa using this) (fun m hm => hz m (by simp [DataW.weightsEach, hm]))
 refine ⟨(a, b), ⟨(cs.drop off).take d.sz, cs.drop (off + d.sz), ?_, hK, hK'⟩, ⟨hI, hI'⟩, ?_⟩
 ·rw [← List.drop_drop, List.take_append_drop]
 ·simp only [List.map_cons, Rows.uptoBulkAll]
  omega
theorem opens_struct {P : Program} {t : TypeId} {fs : Array Field} {α β : Type} {d : Kd α} {I : α → Prop} {B : α → Nat} (ht : P.underlying t = some (.struct fs)) (hc : P.cellsOf t = d.sz) (f : β → α) (g : α → β) (hfg : ∀ a, f (g a) = a)
  (h : OpensF P fs.toList 0 d I B) : Opens P t (Kd.iso d f) (fun s => I (f s)) (fun s => B (f s) + 1) := by
 intro H enc w fuel cs x hx hz
 obtain ⟨xs, n, rfl, rfl, hcl, hxl, hel⟩ := DataW.trod_struct ht hx
 obtain ⟨a, hK, hI, hB⟩ := h enc w n cs xs (by rw [hcl, hc]; omega) (by simpa using hxl) (fun i q hq => hel i q (by simpa using hq)) (by simpa [DataW.weights, ht] using hz)
 refine ⟨g a, ?_, ?_, ?_⟩
 ·show d.K w (f (g a)) cs
  rw [hfg]
  simpa using hK
 ·show I (f (g a))
  rw [hfg]
  exact hI
 ·show B (f (g a)) + 1 ≤ _
  rw [hfg]
  simp only [Rows.uptoBulk]
  omega
theorem arg_open {P : Program} {t : TypeId} {α : Type} {d : Kd α} {I : α → Prop} {B : α → Nat} (h : Opens P t d I B) {H : Type} {enc : TypeId × Value → H} {w : World} {v : Value} {x : DataW H} {p : List MemPlace} (ht : DataW.Trod enc P w 0 (fun _ => true) true t v x p)
  (hz : ∀ n ∈ x.weights P t, n ≤ reachBytes) : ∃ a : α, d.K w a v.cells.toList ∧ I a ∧ B a ≤ Rows.uptoBulk x := by
 obtain ⟨fuel, hf⟩ := ht
 exact h enc w fuel _ _ hf hz
theorem arg_weights {H : Type} {P : Program} {ts : List TypeId} {ds : List (DataW H)} (h : (DataW.weightsEach P ts ds).all (· ≤ reachBytes) = true) (j : Nat) {t : TypeId} {d : DataW H} (ht : ts[j]? = some t) (hd : ds[j]? = some d) : ∀ n ∈ d.weights P t, n ≤ reachBytes := by
 intro n hn
 have := List.all_eq_true.1 h n (DataW.weights_mem_each ht hd n hn)
 simpa using this
theorem arg_slice {α : Type} {d : Kd α} {e : Nat} {w : World} {xs : List α} {A : Option Addr} {n c : Nat} (h : (Kd.slice e d).K w xs (Value.slice A n c).cells.toList) : n = xs.length ∧ xs.length ≤ c ∧ d.C w A xs.length xs := by
 obtain ⟨A', c', he, hl, hC⟩ := h
 simp [Value.cells] at he
 obtain ⟨rfl, rfl, rfl⟩ := he
 exact ⟨rfl, hl, hC⟩
end Go.Proofs.Ytgkjpffbgnljeaa.Op
