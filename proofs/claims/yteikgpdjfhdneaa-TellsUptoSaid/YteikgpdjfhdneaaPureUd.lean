/- The plain law of Tells. -/
import Derived.Test.YteikgpdjfhdneaaTellY
import Derived.Test.YteikgpdjfhdneaaOpsVTells
set_option linter.unusedVariables false
namespace Go.Proofs.Yteikgpdjfhdneaa.Pure
open Go.RowKit Go.Proofs.Yteikgpdjfhdneaa.QT Go.Proofs.Yteikgpdjfhdneaa.Man Go.Proofs.Yteikgpdjfhdneaa.QH Go.Proofs.Yteikgpdjfhdneaa.QS Go.Proofs.Yteikgpdjfhdneaa.QI Go.Proofs.Yteikgpdjfhdneaa.QG Go.Proofs.Yteikgpdjfhdneaa.TellU Go.Proofs.Yteikgpdjfhdneaa.OpsTells Go.Proofs.YteikgpdjfhdneaaW.PrintWords Go.Proofs.YteikgpdjfhdneaaW.PrintLast Go.Proofs.YteikgpdjfhdneaaW.PrintMore
theorem rw_l1 (i : Int) (fr to_ at_ : Int) (vs : List Int) (kind code id rate value : Int) (ps : List Pce) (a b : Int) (qs : List Pth) : ∀ (d j : Nat) (acc : List Int) (k : Nat), qs.length - j = d → j ≤ qs.length → acc.length + ((qs.drop j).flatMap pathN).length ≤ 1000000 → qs.length ≤ 1000000 →
    tollbarref22_WriteTell.l1 (d + 1 + k) acc i (j : Int) fr to_ at_ vs kind code id rate value ps a b qs = tollbarref22_WriteTell.l0 k (acc ++ (qs.drop j).flatMap pathN) (wrap64 (i + 1)) fr to_ at_ vs kind code id rate value ps := by
  intro d
  induction d with
  | zero =>
    intro j acc k hd hj ha hq
    rw [show 0 + 1 + k = k + 1 by omega, tollbarref22_WriteTell.l1, if_neg (by omega), List.drop_of_length_le (by omega)]
    simp
  | succ d ih =>
    intro j acc k hd hj ha hq
    have hlt : j < qs.length := by omega
    have e := List.drop_eq_getElem_cons hlt
    rw [e, List.flatMap_cons, List.length_append] at ha
    have hl : (pathN qs[j]).length = qs[j].f1.length + 2 := by simp [pathN]
    rw [show d + 1 + 1 + k = (d + 1 + k) + 1 by omega, tollbarref22_WriteTell.l1, if_pos (by omega), if_pos (by omega), Option.bind_some, rdP_at qs j hlt, if_pos (by simp only [List.length_cons, List.length_nil]; omega), Option.bind_some, if_pos (by simp only [List.length_append, List.length_cons, List.length_nil]; omega), wrapN j (by omega), ih (j + 1) _ k (by omega) (by omega) (by simp only [List.length_append, List.length_cons, List.length_nil] at ha ⊢; omega) hq, e, List.flatMap_cons]
    simp [pathN]
theorem rw_l0 (fr to_ at_ : Int) (vs : List Int) (kind code id rate value : Int) (ps : List Pce) : ∀ (d i : Nat) (acc : List Int) (k : Nat), ps.length - i = d → i ≤ ps.length → acc.length + ((ps.drop i).flatMap pieceN).length ≤ 1000000 → ps.length ≤ 1000000 →
    tollbarref22_WriteTell.l0 (cost (ps.drop i) + 1 + k) acc (i : Int) fr to_ at_ vs kind code id rate value ps = (tollbarref1_Put.f (acc ++ (ps.drop i).flatMap pieceN)).bind fun bt => some (bt.1, 0) := by
  intro d
  induction d with
  | zero =>
    intro i acc k hd hi ha hp
    rw [List.drop_of_length_le (by omega), show cost [] + 1 + k = k + 1 by simp [cost]; omega, tollbarref22_WriteTell.l0, if_neg (by omega)]
    simp
  | succ d ih =>
    intro i acc k hd hi ha hp
    have hlt : i < ps.length := by omega
    have e := List.drop_eq_getElem_cons hlt
    rw [e] at ha ⊢
    rw [List.flatMap_cons, List.length_append] at ha
    have hl : (pieceN ps[i]).length = (ps[i].f1.flatMap pathN).length + 3 := by simp [pieceN]
    have hg := flat_ge ps[i].f1
    rw [show cost (ps[i] :: ps.drop (i + 1)) + 1 + k = (ps[i].f1.length + 1 + (cost (ps.drop (i + 1)) + 1 + k)) + 1 by simp only [cost]; omega, tollbarref22_WriteTell.l0, if_pos (by omega), if_pos (by omega), Option.bind_some, if_pos (by simp only [List.length_cons, List.length_nil]; omega), rdQ_at ps i hlt]
    have h1 := rw_l1 (i : Int) fr to_ at_ vs kind code id rate value ps ps[i].f0.f0 ps[i].f0.f1 ps[i].f1 ps[i].f1.length 0 (acc ++ [ps[i].f0.f0, ps[i].f0.f1, (ps[i].f1.length : Int)]) (cost (ps.drop (i + 1)) + 1 + k) (by omega) (by omega) (by simp only [List.drop_zero, List.length_append, List.length_cons, List.length_nil]; omega) (by omega)
    rw [show ((0 : Nat) : Int) = 0 from rfl] at h1
    rw [h1, List.drop_zero, wrapN i (by omega), ih (i + 1) _ k (by omega) (by omega) (by simp only [List.length_append, List.length_cons, List.length_nil]; omega) hp, List.flatMap_cons]
    simp [pieceN]
theorem rwrite_may {r : Rp} (h : tellF r = true) (hv : r.vs.length ≤ 1000000000) (hp : costQ r.ps ≤ 1000000000) (k : Nat) (hk0 : 4000 ≤ k) (hk : r.vs.length + 1 < k) (hk2 : 2 * costQ r.ps + 10 < k) : tollbarref22_WriteTell.f k r.fr r.to_ r.at_ r.vs r.kind r.code r.id r.rate r.value r.ps = some (bytesR r, 0) := by
  have hpn : tollbarref1_Put.f (tellN r) = some (bytesR r, 0) := put_nums h
  have hb := (may_nums h).2.1
  unfold tollbarref22_WriteTell.f
  rw [replyMay_is r hv hp k hk hk2, h, Option.bind_some, if_pos rfl, Option.bind_some]
  unfold tellN at hpn hb
  by_cases h1 : r.kind = 1
  · simp only [h1, if_true] at hpn ⊢
    rw [if_pos (by simp)]
    show (tollbarref1_Put.f [1, r.code]).bind _ = _
    rw [hpn, Option.bind_some]
  by_cases h2 : r.kind = 2
  · simp only [h2, if_true, Int.reduceEq, if_false, List.length_cons] at hpn hb ⊢
    have hc := cost_le r.ps
    have hq := flatQ_ge r.ps
    rw [Option.bind_some, if_pos (by simp only [List.length_cons, List.length_nil]; omega)]
    have h0 := rw_l0 r.fr r.to_ r.at_ r.vs 2 r.code r.id r.rate r.value r.ps r.ps.length 0 ([2] ++ [r.id, r.rate, r.fr, r.to_, (r.ps.length : Int)]) (k - cost r.ps - 1) (by omega) (by omega) (by simp only [List.drop_zero, List.length_append, List.length_cons, List.length_nil]; omega) (by omega)
    rw [List.drop_zero, show cost r.ps + 1 + (k - cost r.ps - 1) = k by omega, show ((0 : Nat) : Int) = 0 from rfl] at h0
    rw [h0]
    show (tollbarref1_Put.f (2 :: r.id :: r.rate :: r.fr :: r.to_ :: (r.ps.length : Int) :: r.ps.flatMap pieceN)).bind _ = _
    rw [hpn, Option.bind_some]
  by_cases h3 : r.kind = 3
  · simp only [h3, if_true, Int.reduceEq, if_false, List.length_cons] at hpn hb ⊢
    rw [Option.bind_some, if_pos (by simp), Option.bind_some, if_pos (by simp only [List.length_cons, List.length_nil, List.length_append]; omega)]
    show (tollbarref1_Put.f (3 :: r.at_ :: (r.vs.length : Int) :: r.vs)).bind _ = _
    rw [hpn, Option.bind_some]
  by_cases h5 : r.kind = 5
  · simp only [h5, if_true, Int.reduceEq, if_false] at hpn ⊢
    rw [if_pos (by simp)]
    show (tollbarref1_Put.f [5, r.value]).bind _ = _
    rw [hpn, Option.bind_some]
  simp only [h1, h2, h3, h5, if_false] at hpn ⊢
  rw [hpn, Option.bind_some]
theorem rwrite_not {r : Rp} (h : ¬ tellF r = true) (hv : r.vs.length ≤ 1000000000) (hp : costQ r.ps ≤ 1000000000) (k : Nat) (hk : r.vs.length + 1 < k) (hk2 : 2 * costQ r.ps + 10 < k) : tollbarref22_WriteTell.f k r.fr r.to_ r.at_ r.vs r.kind r.code r.id r.rate r.value r.ps = some (⟨#[]⟩, 2300) := by
  unfold tollbarref22_WriteTell.f
  rw [replyMay_is r hv hp k hk hk2, Option.bind_some, if_neg h]
theorem tells_is (r : Rp) (hv : r.vs.length ≤ 1048576) (hp : costQ r.ps ≤ 10000000) : ∃ k, tollbarlaw23_Tells.f k r.fr r.to_ r.at_ r.vs r.kind r.code r.id r.rate r.value r.ps = some true := by
  obtain ⟨k, hk⟩ : ∃ k, k = r.vs.length + 2 * costQ r.ps + 5000 := ⟨_, rfl⟩
  refine ⟨k, ?_⟩
  unfold tollbarlaw23_Tells.f
  refine if_pos ⟨copy_is r (by omega) (by omega) k (by omega), ?_, ⟨tellF r, may_f r (by omega), replyMay_is r (by omega) (by omega) k (by omega) (by omega)⟩, ?_⟩
  · by_cases h : tellF r = true
    · exact ⟨_, _, write_may h (by omega) k (by omega), rwrite_may h (by omega) (by omega) k (by omega) (by omega) (by omega)⟩
    · exact ⟨_, _, write_not h (by omega) k, rwrite_not h (by omega) (by omega) k (by omega) (by omega)⟩
  · rw [same_is r r (by omega) (by omega) k (by omega) (by omega), decide_eq_true rfl]
theorem sum_ones : ∀ xs : List Int, (xs.map (fun _ : Int => 1)).sum = xs.length
  | [] => rfl
  | x :: xs => by
    have := sum_ones xs
    simp only [List.map_cons, List.sum_cons, List.length_cons]
    omega
theorem bulkP : ∀ ps : List Pth, costP ps ≤ (ps.map B78).sum
  | [] => by simp [costP]
  | p :: r => by
    have h := bulkP r
    have h2 := sum_ones p.f1
    simp only [List.map_cons, List.sum_cons, costP, B78]
    omega
theorem bulkQ : ∀ ps : List Pce, costQ ps ≤ (ps.map B76).sum
  | [] => by simp [costQ]
  | p :: r => by
    have h := bulkQ r
    have h2 := bulkP p.f1
    simp only [List.map_cons, List.sum_cons, costQ, B76, B42]
    omega
theorem Tells (x0 : S48) (h0 : I48 x0) (hb : B48 x0 ≤ 1048576) : ∃ k, tollbarlaw23_Tells.f k x0.f0.f0 x0.f0.f1 x0.f1.f0 x0.f1.f1 x0.f2 x0.f3 x0.f4 x0.f5 x0.f6 x0.f7 = some true := by
  have h1 := bulkQ x0.f7
  have h2 := sum_ones x0.f1.f1
  have hb' := hb
  simp only [B48, B45] at hb'
  exact tells_is ⟨x0.f0.f0, x0.f0.f1, x0.f1.f0, x0.f1.f1, x0.f2, x0.f3, x0.f4, x0.f5, x0.f6, x0.f7⟩ (show x0.f1.f1.length ≤ 1048576 by omega) (show costQ x0.f7 ≤ 10000000 by omega)
end Go.Proofs.Yteikgpdjfhdneaa.Pure
