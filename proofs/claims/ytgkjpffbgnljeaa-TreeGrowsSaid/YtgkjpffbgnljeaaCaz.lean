/- Texts of this claim laid together: TreeL, TreeN, TreeO, TreeP, TreeQ, QI1, TreeR, TreeS, TreeT, TreeU, TreeV, TreeW, TreeX, TreeY. -/
import Derived.Test.YtgkjpffbgnljeaaCay
/- arena.drop: an item taken away that hangs at a place or below it. -/
set_option linter.unusedVariables false
set_option linter.unusedSimpArgs false
namespace Go.Proofs.Ytgkjpffbgnljeaa.Man
open Go.RowKit Go.Proofs.Ytgkjpffbgnljeaa.QT Go.Proofs.Ytgkjpffbgnljeaa.TreeM Go.Proofs.YtgkjpffbgnljeaaW.PrintWords Go.Proofs.YtgkjpffbgnljeaaW.PrintLast Go.Proofs.YtgkjpffbgnljeaaW.PrintMore
attribute [local go_sem] max2_mx min2_mn max_two min_two
def Drops (W : World) (base q g nn cn : Nat) (root : Int) (a : Cells) (t : T) (i : Int) (x : Itm) (fr : List Int) : Prop :=
 Calls Try.prog 62 #[.pointer (some ⟨q, 0, none⟩), .int .i64 i, .agg #[.int .i64 x.fr, .int .i64 x.to_, .int .i64 x.id]] W fun e W' => e = .returned (.int .i64 (plc (drop t x))) ∧ Below base W W' ∧ ∃ a' vf', Ar W' base q (some ⟨g, 0, none⟩) nn cn a' vf' (fr ++ [((gone t x : Nat) : Int)]) root ∧ Hang a' (drop t x) (plc (drop t x)) ∧ Off (fun s => s ∈ places t) a a' ∧ ∀ k, k < 7 → a' (gone t x * 7 + k) = 0
theorem nodup_drop {x : Itm} {t : T} (h : (places t).Nodup) (hr : Row (items t)) (hm : x ∈ items t) : gone t x ∉ places (drop t x) ∧ (places (drop t x)).Nodup := by
 have := (places_drop t x hr hm).nodup_iff.2 h
 exact List.nodup_cons.1 this
theorem mem_drop {x : Itm} {t : T} {s : Nat} (hr : Row (items t)) (hm : x ∈ items t) : s ∈ places t ↔ s = gone t x ∨ s ∈ places (drop t x) := by rw [← (places_drop t x hr hm).mem_iff, List.mem_cons]
theorem drop_half_l {a a3 : Cells} {p : Nat} {y x : Itm} {l r : T} (hh : Half a p y l r) (hnd : (places (.node p y l r)).Nodup) (hr : Row (items l)) (hm : x ∈ items l) (hg : Hang a3 (drop l x) (plc (drop l x))) (ho : Off (fun s => s ∈ places l) a a3) (hz : ∀ k, k < 7 → a3 (gone l x * 7 + k) = 0) :
  Half (upd a3 (p * 7 + 3) (plc (drop l x))) p y (drop l x) r ∧ (places (.node p y (drop l x) r)).Nodup ∧ gone l x ∉ places (.node p y (drop l x) r) ∧ (∀ k, k < 7 → upd a3 (p * 7 + 3) (plc (drop l x)) (gone l x * 7 + k) = 0) ∧ ∀ s, s ∈ places (.node p y (drop l x) r) → s ∈ places (.node p y l r) := by
 have ap := Apart.of hnd
 obtain ⟨d1, d2⟩ := nodup_drop ap.dl hr hm
 have hsub : ∀ s, s ∈ places (drop l x) → s ∈ places l := fun s hs => (mem_drop hr hm).2 (.inr hs)
 have hgm : gone l x ∈ places l := (mem_drop hr hm).2 (.inl rfl)
 have nl' : p ∉ places (drop l x) := fun e => ap.nl (hsub _ e)
 obtain ⟨j1, j2, j3⟩ := hh
 have h3 : Hang a3 r (a3 (p * 7 + 4)) := by rw [ho p ap.nl 4 (by omega)]; exact Hang.off ho j3 (fun s hs e => ap.lr s e hs)
 have hof := Off.upd a3 p 3 (plc (drop l x)) (by omega)
 have hgp : gone l x ≠ p := fun e => ap.nl (e ▸ hgm)
 refine ⟨⟨item_off hof j1 ho ap.nl, ?_, ?_⟩, ?_, ?_, ?_, ?_⟩
 ·rw [upd_same]; exact Hang.off hof hg (fun s hs e => nl' (e ▸ hs))
 ·rw [upd_ne (by omega)]; exact Hang.off hof h3 (fun s hs e => ap.nr (e ▸ hs))
 ·exact Apart.nodup (x := y) ⟨nl', ap.nr, d2, ap.dr, fun s hs hr => ap.lr s (hsub s hs) hr⟩
 ·intro e
  simp only [places, List.mem_append, List.mem_cons] at e
  rcases e with e | e | e
  ·exact d1 e
  ·exact hgp e
  ·exact ap.lr _ hgm e
 ·intro k hk
  rw [upd_ne (by omega)]; exact hz k hk
 ·intro s e
  simp only [places, List.mem_append, List.mem_cons] at e ⊢
  rcases e with e | e | e
  ·exact .inl (hsub s e)
  ·exact .inr (.inl e)
  ·exact .inr (.inr e)
theorem drop_half_r {a a3 : Cells} {p : Nat} {y x : Itm} {l r : T} (hh : Half a p y l r) (hnd : (places (.node p y l r)).Nodup) (hr : Row (items r)) (hm : x ∈ items r) (hg : Hang a3 (drop r x) (plc (drop r x))) (ho : Off (fun s => s ∈ places r) a a3) (hz : ∀ k, k < 7 → a3 (gone r x * 7 + k) = 0) :
  Half (upd a3 (p * 7 + 4) (plc (drop r x))) p y l (drop r x) ∧ (places (.node p y l (drop r x))).Nodup ∧ gone r x ∉ places (.node p y l (drop r x)) ∧ (∀ k, k < 7 → upd a3 (p * 7 + 4) (plc (drop r x)) (gone r x * 7 + k) = 0) ∧ ∀ s, s ∈ places (.node p y l (drop r x)) → s ∈ places (.node p y l r) := by
 have ap := Apart.of hnd
 obtain ⟨d1, d2⟩ := nodup_drop ap.dr hr hm
 have hsub : ∀ s, s ∈ places (drop r x) → s ∈ places r := fun s hs => (mem_drop hr hm).2 (.inr hs)
 have hgm : gone r x ∈ places r := (mem_drop hr hm).2 (.inl rfl)
 have nr' : p ∉ places (drop r x) := fun e => ap.nr (hsub _ e)
 obtain ⟨j1, j2, j3⟩ := hh
 have h3 : Hang a3 l (a3 (p * 7 + 3)) := by rw [ho p ap.nr 3 (by omega)]; exact Hang.off ho j2 (fun s hs e => ap.lr s hs e)
 have hof := Off.upd a3 p 4 (plc (drop r x)) (by omega)
 have hgp : gone r x ≠ p := fun e => ap.nr (e ▸ hgm)
 refine ⟨⟨item_off hof j1 ho ap.nr, ?_, ?_⟩, ?_, ?_, ?_, ?_⟩
 ·rw [upd_ne (by omega)]; exact Hang.off hof h3 (fun s hs e => ap.nl (e ▸ hs))
 ·rw [upd_same]; exact Hang.off hof hg (fun s hs e => nr' (e ▸ hs))
 ·exact Apart.nodup (x := y) ⟨ap.nl, nr', ap.dl, d2, fun s hs hr => ap.lr s hs (hsub s hr)⟩
 ·intro e
  simp only [places, List.mem_append, List.mem_cons] at e
  rcases e with e | e | e
  ·exact ap.lr _ e hgm
  ·exact hgp e
  ·exact d1 e
 ·intro k hk
  rw [upd_ne (by omega)]; exact hz k hk
 ·intro s e
  simp only [places, List.mem_append, List.mem_cons] at e ⊢
  rcases e with e | e | e
  ·exact .inl e
  ·exact .inr (.inl e)
  ·exact .inr (.inr (hsub s e))
theorem plc_ge (t : T) : -1 ≤ plc t := by cases t <;> simp only [plc] <;> omega
theorem plc_max_r (t : T) : mx (-1) (plc t) = plc t := by have := plc_ge t; unfold mx; split <;> omega
theorem plc_max_l (t : T) : mx (plc t) (-1) = plc t := by have := plc_ge t; unfold mx; split <;> omega
def relay (a : Cells) (p : Nat) (z : Itm) : Cells := upd (upd (upd a (p * 7) z.fr) (p * 7 + 1) z.to_) (p * 7 + 2) z.id
theorem relay_off (a : Cells) (p : Nat) (z : Itm) : Off (fun s => s = p) a (relay a p z) := by
 intro s hs k hk
 unfold relay
 rw [upd_ne (by omega), upd_ne (by omega), upd_ne (by omega)]
theorem relay_half {a : Cells} {p : Nat} {y z : Itm} {l r : T} (h : Half a p y l r) (hp : Apart p l r) : Half (relay a p z) p z l r := by
 obtain ⟨_, h1, h2⟩ := h
 have ho := relay_off a p z
 refine ⟨⟨?_, ?_, ?_⟩, ?_, ?_⟩
 ·unfold relay; rw [upd_ne (by omega), upd_ne (by omega), upd_same]
 ·unfold relay; rw [upd_ne (by omega), upd_same]
 ·unfold relay; rw [upd_same]
 ·have e : relay a p z (p * 7 + 3) = a (p * 7 + 3) := by unfold relay; rw [upd_ne (by omega), upd_ne (by omega), upd_ne (by omega)]
  rw [e]; exact Hang.off ho h1 (fun s hs e => hp.nl (e ▸ hs))
 ·have e : relay a p z (p * 7 + 4) = a (p * 7 + 4) := by unfold relay; rw [upd_ne (by omega), upd_ne (by omega), upd_ne (by omega)]
  rw [e]; exact Hang.off ho h2 (fun s hs e => hp.nr (e ▸ hs))
set_option maxHeartbeats 4000000 in
set_option maxRecDepth 100000 in
theorem drop_l (W : World) (base q g nn cn : Nat) (a : Cells) (vf : Value) (fr : List Int) (root : Int) (x : Itm) (p : Nat) (y : Itm) (l r : T) (h : Ar W base q (some ⟨g, 0, none⟩) nn cn a vf fr root) (hl : fr.length ≤ 1000000) (hh : Hang a (.node p y l r) (p : Int)) (hnd : (places (.node p y l r)).Nodup) (hw : Within nn (.node p y l r)) (hrow : Row (items (.node p y l r))) (hm : x ∈ items (.node p y l r)) (hb : bal (.node p y l r)) (bh : hgt (.node p y l r) ≤ 800) (hlt : lt x y)
  (ih : ∀ W', Ar W' base q (some ⟨g, 0, none⟩) nn cn a vf fr root → Drops W' base q g nn cn root a l (a (p * 7 + 3)) x fr) :
  Drops W base q g nn cn root a (.node p y l r) (p : Int) x fr := by
 have HE : Hid (drop (.node p y l r) x = even p y (drop l x) r) := Lib.hid (by rw [drop, if_pos hlt])
 have HG : Hid (gone (.node p y l r) x = gone l x) := Lib.hid (by rw [gone, if_pos hlt])
 have hrow' : Row (items l ++ y :: items r) := hrow
 have hm' : x ∈ items l ++ y :: items r := hm
 have hrs : Row (items l) := (row_parts hrow').1
 have hms : x ∈ items l := mem_low hrow' hlt hm'
 have HBL : Hid (hgt (drop l x) ≤ 900 ∧ hgt r ≤ 900) := Lib.hid (by have := (drop_bal l x hrs hms hb.1).2; simp only [hgt] at bh; omega)
 have HPH : Hid (∀ a3, Hang a3 (drop l x) (plc (drop l x)) → Off (fun s => s ∈ places l) a a3 → (∀ k, k < 7 → a3 (gone l x * 7 + k) = 0) → Half (upd a3 (p * 7 + 3) (plc (drop l x))) p y (drop l x) r ∧ (places (.node p y (drop l x) r)).Nodup ∧ gone l x ∉ places (.node p y (drop l x) r) ∧ (∀ k, k < 7 → upd a3 (p * 7 + 3) (plc (drop l x)) (gone l x * 7 + k) = 0) ∧ ∀ s, s ∈ places (.node p y (drop l x) r) → s ∈ places (.node p y l r)) := Lib.hid fun a3 g1 g2 g3 => drop_half_l hh.half hnd hrs hms g1 g2 g3
 have HW : Hid (Within nn (.node p y l r)) := Lib.hid hw
 have HIH := Lib.hid ih
 have hIt : ItAt a p y := hh.2.1
 obtain ⟨x1, x2, x3⟩ := x
 obtain ⟨y1, y2, y3⟩ := y
 obtain ⟨i0, i1, i2⟩ := hIt
 simp only at i0 i1 i2
 have hp : p < nn := hw.p
 obtain ⟨g', eg, hn0, hqg, hbg⟩ := h.nds (by omega)
 injection eg with eg
 injection eg with eg
 subst eg
 have hbB : Below W.heap.size W (W.alloc (.cells #[.int .i64 x1, .int .i64 x2, .int .i64 x3] 50)) := (Below.refl _ _).alloc (Nat.le_refl _) _
 have HBB : Hid (Below base W (W.alloc (.cells #[.int .i64 x1, .int .i64 x2, .int .i64 x3] 50))) := Lib.hid ((Below.refl _ _).alloc (by have := h.qlt; have := h.hq; omega) _)
 have HA0 := Lib.hid (h.below hbB)
 have HBQ : Hid (base ≤ (W.alloc (.cells #[.int .i64 x1, .int .i64 x2, .int .i64 x3] 50)).heap.size) := Lib.hid (by have := HBB.out.size; have := h.qlt; have := h.hq; omega)
 have c0 := (h.hd.below hbB).cell
 have z0 : ∀ x : Later (W.alloc (.cells #[.int .i64 x1, .int .i64 x2, .int .i64 x3] 50)), x.at.cell? ⟨W.heap.size, 0, none⟩ = some (.int .i64 x1) := fun x => Later.cell (by rw [blk_cell (blk_new W _) 0]; rfl) x
 have z1 : ∀ x : Later (W.alloc (.cells #[.int .i64 x1, .int .i64 x2, .int .i64 x3] 50)), x.at.cell? ⟨W.heap.size, 1, none⟩ = some (.int .i64 x2) := fun x => Later.cell (by rw [blk_cell (blk_new W _) 1]; rfl) x
 have z2 : ∀ x : Later (W.alloc (.cells #[.int .i64 x1, .int .i64 x2, .int .i64 x3] 50)), x.at.cell? ⟨W.heap.size, 2, none⟩ = some (.int .i64 x3) := fun x => Later.cell (by rw [blk_cell (blk_new W _) 2]; rfl) x
 have n0 : ∀ x : Later (W.alloc (.cells #[.int .i64 x1, .int .i64 x2, .int .i64 x3] 50)), x.at.cell? ⟨g, p * 7, none⟩ = some (.int .i64 y1) := Later.cell (by rw [(hn0.below hbB).cell (by omega), i0])
 have n1 : ∀ x : Later (W.alloc (.cells #[.int .i64 x1, .int .i64 x2, .int .i64 x3] 50)), x.at.cell? ⟨g, p * 7 + 1, none⟩ = some (.int .i64 y2) := Later.cell (by rw [(hn0.below hbB).cell (by omega), i1])
 have n2 : ∀ x : Later (W.alloc (.cells #[.int .i64 x1, .int .i64 x2, .int .i64 x3] 50)), x.at.cell? ⟨g, p * 7 + 2, none⟩ = some (.int .i64 y3) := Later.cell (by rw [(hn0.below hbB).cell (by omega), i2])
 have hd0 : decide (cmpF ⟨x1, x2, x3⟩ ⟨y1, y2, y3⟩ < 0) = true := decide_eq_true (cmpF_lt.2 hlt)
 have hd1 : decide (cmpF ⟨x1, x2, x3⟩ ⟨y1, y2, y3⟩ > 0) = false := decide_eq_false (fun e => lt_asymm hlt (cmpF_gt.1 e))
 have h0 : (0 : Int) ≤ (p : Int) := by omega
 have h1 : (p : Int) < (nn : Int) := by omega
 have n3 : ∀ x : Later (W.alloc (.cells #[.int .i64 x1, .int .i64 x2, .int .i64 x3] 50)), x.at.cell? ⟨g, p * 7 + 3, none⟩ = some (.int .i64 (a (p * 7 + 3))) := Later.cell ((hn0.below hbB).cell (by omega))
 clear h hh hnd hw hrow hm hb bh ih i0 i1 i2 hn0 hlt hbB hrow' hm' hrs hms
 unfold Drops
 rw [HE.out, HG.out]
 clear HE HG
 go_enter Try.func62, Try.ntmps62
 go_wp2_with fail
 clear c0
 refine wp_region_later (by kernel_rfl) (by kernel_rfl) ?_
 repeat (go_big_quiet_step (first
  | (go_at_call 55; with_reducible exact later_of (compare_is x1 x2 x3 y1 y2 y3 _))))
 refine wpQuiet_nil ?_
 rintro _ ⟨xl, rfl⟩
 have HX1 := Lib.hid xl.below
 have HA1 := Lib.hid (HA0.out.below HX1.out)
 have HB1 := Lib.hid (below_then HBB.out HBQ.out HX1.out)
 have z0 := z0 xl
 have z1 := z1 xl
 have z2 := z2 xl
 have n3 := n3 xl
 clear n0 n1 n2 HX1 HA0
 generalize xl.at = w1 at *
 clear xl
 have HAd := Lib.hid (HA1.out.below (below_drew (Below.refl _ _)))
 have HBd : Hid (Below base W w1.drew) := Lib.hid (below_drew HB1.out)
 have HC := Lib.hid (HIH.out w1.drew HAd.out)
 clear HIH
 go_wp2_with fail
 go_region_with (first
   | (go_at_call 62; refine HC.out.mono ?_; rintro e w3 ⟨rfl, hb3, a3, vf3, hA3, hg3, ho3, hz3⟩; have HB3 := Lib.hid (HBd.out.trans hb3); have HA3 := Lib.hid hA3; have HG3 := Lib.hid hg3; have HO3 := Lib.hid ho3; have HZ3 := Lib.hid hz3; obtain ⟨g3, eg3, hn3, _, _⟩ := hA3.nds (by omega); injection eg3 with eg3; injection eg3 with eg3; subst eg3; have HN3 := Lib.hid hn3; have s3 := hn3.cell (j := p * 7 + 3) (by omega); have f3 := hn3.frozen (p * 7 + 3); clear hb3 hA3 hg3 ho3 hz3 hn3))
 all_goals (
  obtain ⟨hhf, hnd', hgn, hz4, hsub⟩ := HPH.out a3 HG3.out HO3.out HZ3.out
  have HHF := Lib.hid hhf
  have HND := Lib.hid hnd'
  have HGN := Lib.hid hgn
  have HZ4 := Lib.hid hz4
  have HSB := Lib.hid hsub
  have HG4 : Hid (But g w3 (w3.setCell ⟨g, p * 7 + 3, none⟩ (.int .i64 (plc (drop l ⟨x1, x2, x3⟩))))) := Lib.hid (But.set g (p * 7 + 3) w3 _)
  have HN4 : Hid (Nds (w3.setCell ⟨g, p * 7 + 3, none⟩ (.int .i64 (plc (drop l ⟨x1, x2, x3⟩)))) g nn (upd a3 (p * 7 + 3) (plc (drop l ⟨x1, x2, x3⟩)))) := Lib.hid (HN3.out.set _ _)
  have HA4 := Lib.hid (HA3.out.but HG4.out HN4.out)
  have HB4 := Lib.hid (HB3.out.trans (HG4.out.below hbg (by have := HA3.out.qlt; have := HA3.out.hq; omega)))
  have HO4 : Hid (Off (fun s => s ∈ places (.node p ⟨y1, y2, y3⟩ l r)) a (upd a3 (p * 7 + 3) (plc (drop l ⟨x1, x2, x3⟩)))) := Lib.hid ((HO3.out.mono (fun s hs => by simp [places, hs])).trans ((Off.upd a3 p 3 _ (by omega)).mono (fun s hs => by simp [places, hs])))
  have HW4 : Hid (Within nn (.node p ⟨y1, y2, y3⟩ (drop l ⟨x1, x2, x3⟩) r)) := Lib.hid (fun s hs => HW.out s (hsub s hs))
  clear s3 f3 HB3 HA3 HN3 HO3 HG4 HG3 HZ3 hhf hnd' hgn hz4 hsub HPH HC z0 z1 z2 n3 HA1 HB1 HAd HBd
  generalize w3.setCell ⟨g, p * 7 + 3, none⟩ (.int .i64 (plc (drop l ⟨x1, x2, x3⟩))) = w4 at *
  generalize upd a3 (p * 7 + 3) (plc (drop l ⟨x1, x2, x3⟩)) = a4 at *
  have HEV := Lib.hid (even_is q g nn cn p a4 ⟨y1, y2, y3⟩ (drop l ⟨x1, x2, x3⟩) r w4 HA4.out.hd HN4.out hqg HHF.out HND.out HW4.out HBL.out.1 HBL.out.2)
  go_wp2_with fail
  refine (HEV.out).mono ?_
  rintro e w5 ⟨rfl, hb5, a5, hn5, hg5, ho5⟩
  have HF : Hid (Below base W w5 ∧ ∃ a' vf', Ar w5 base q (some ⟨g, 0, none⟩) nn cn a' vf' (fr ++ [((gone l ⟨x1, x2, x3⟩ : Nat) : Int)]) root ∧ Hang a' (even p ⟨y1, y2, y3⟩ (drop l ⟨x1, x2, x3⟩) r) (plc (even p ⟨y1, y2, y3⟩ (drop l ⟨x1, x2, x3⟩) r)) ∧ Off (fun s => s ∈ places (.node p ⟨y1, y2, y3⟩ l r)) a a' ∧ ∀ k, k < 7 → a' (gone l ⟨x1, x2, x3⟩ * 7 + k) = 0) := Lib.hid ⟨HB4.out.trans (hb5.below hbg (by have := HA4.out.qlt; have := HA4.out.hq; omega)), a5, _, HA4.out.but hb5 hn5, hg5, HO4.out.trans (ho5.mono HSB.out), fun k hk => (ho5 _ HGN.out k hk).trans (HZ4.out k hk)⟩
  clear hb5 hn5 hg5 ho5 HEV
  go_wp2
  go_ret
  exact ⟨rfl, HF.out⟩)
set_option maxHeartbeats 4000000 in
set_option maxRecDepth 100000 in
theorem drop_r (W : World) (base q g nn cn : Nat) (a : Cells) (vf : Value) (fr : List Int) (root : Int) (x : Itm) (p : Nat) (y : Itm) (l r : T) (h : Ar W base q (some ⟨g, 0, none⟩) nn cn a vf fr root) (hl : fr.length ≤ 1000000) (hh : Hang a (.node p y l r) (p : Int)) (hnd : (places (.node p y l r)).Nodup) (hw : Within nn (.node p y l r)) (hrow : Row (items (.node p y l r))) (hm : x ∈ items (.node p y l r)) (hb : bal (.node p y l r)) (bh : hgt (.node p y l r) ≤ 800) (hgt_ : lt y x)
  (ih : ∀ W', Ar W' base q (some ⟨g, 0, none⟩) nn cn a vf fr root → Drops W' base q g nn cn root a r (a (p * 7 + 4)) x fr) :
  Drops W base q g nn cn root a (.node p y l r) (p : Int) x fr := by
 have HE : Hid (drop (.node p y l r) x = even p y l (drop r x)) := Lib.hid (by rw [drop, if_neg (lt_asymm hgt_), if_pos hgt_])
 have HG : Hid (gone (.node p y l r) x = gone r x) := Lib.hid (by rw [gone, if_neg (lt_asymm hgt_), if_pos hgt_])
 have hrow' : Row (items l ++ y :: items r) := hrow
 have hm' : x ∈ items l ++ y :: items r := hm
 have hrs : Row (items r) := (row_parts hrow').2.1
 have hms : x ∈ items r := mem_up hrow' hgt_ hm'
 have HBL : Hid (hgt (drop r x) ≤ 900 ∧ hgt l ≤ 900) := Lib.hid (by have := (drop_bal r x hrs hms hb.2.1).2; simp only [hgt] at bh; omega)
 have HPH : Hid (∀ a3, Hang a3 (drop r x) (plc (drop r x)) → Off (fun s => s ∈ places r) a a3 → (∀ k, k < 7 → a3 (gone r x * 7 + k) = 0) → Half (upd a3 (p * 7 + 4) (plc (drop r x))) p y l (drop r x) ∧ (places (.node p y l (drop r x))).Nodup ∧ gone r x ∉ places (.node p y l (drop r x)) ∧ (∀ k, k < 7 → upd a3 (p * 7 + 4) (plc (drop r x)) (gone r x * 7 + k) = 0) ∧ ∀ s, s ∈ places (.node p y l (drop r x)) → s ∈ places (.node p y l r)) := Lib.hid fun a3 g1 g2 g3 => drop_half_r hh.half hnd hrs hms g1 g2 g3
 have HW : Hid (Within nn (.node p y l r)) := Lib.hid hw
 have HIH := Lib.hid ih
 have hIt : ItAt a p y := hh.2.1
 obtain ⟨x1, x2, x3⟩ := x
 obtain ⟨y1, y2, y3⟩ := y
 obtain ⟨i0, i1, i2⟩ := hIt
 simp only at i0 i1 i2
 have hp : p < nn := hw.p
 obtain ⟨g', eg, hn0, hqg, hbg⟩ := h.nds (by omega)
 injection eg with eg
 injection eg with eg
 subst eg
 have hbB : Below W.heap.size W (W.alloc (.cells #[.int .i64 x1, .int .i64 x2, .int .i64 x3] 50)) := (Below.refl _ _).alloc (Nat.le_refl _) _
 have HBB : Hid (Below base W (W.alloc (.cells #[.int .i64 x1, .int .i64 x2, .int .i64 x3] 50))) := Lib.hid ((Below.refl _ _).alloc (by have := h.qlt; have := h.hq; omega) _)
 have HA0 := Lib.hid (h.below hbB)
 have HBQ : Hid (base ≤ (W.alloc (.cells #[.int .i64 x1, .int .i64 x2, .int .i64 x3] 50)).heap.size) := Lib.hid (by have := HBB.out.size; have := h.qlt; have := h.hq; omega)
 have c0 := (h.hd.below hbB).cell
 have z0 : ∀ x : Later (W.alloc (.cells #[.int .i64 x1, .int .i64 x2, .int .i64 x3] 50)), x.at.cell? ⟨W.heap.size, 0, none⟩ = some (.int .i64 x1) := fun x => Later.cell (by rw [blk_cell (blk_new W _) 0]; rfl) x
 have z1 : ∀ x : Later (W.alloc (.cells #[.int .i64 x1, .int .i64 x2, .int .i64 x3] 50)), x.at.cell? ⟨W.heap.size, 1, none⟩ = some (.int .i64 x2) := fun x => Later.cell (by rw [blk_cell (blk_new W _) 1]; rfl) x
 have z2 : ∀ x : Later (W.alloc (.cells #[.int .i64 x1, .int .i64 x2, .int .i64 x3] 50)), x.at.cell? ⟨W.heap.size, 2, none⟩ = some (.int .i64 x3) := fun x => Later.cell (by rw [blk_cell (blk_new W _) 2]; rfl) x
 have n0 : ∀ x : Later (W.alloc (.cells #[.int .i64 x1, .int .i64 x2, .int .i64 x3] 50)), x.at.cell? ⟨g, p * 7, none⟩ = some (.int .i64 y1) := Later.cell (by rw [(hn0.below hbB).cell (by omega), i0])
 have n1 : ∀ x : Later (W.alloc (.cells #[.int .i64 x1, .int .i64 x2, .int .i64 x3] 50)), x.at.cell? ⟨g, p * 7 + 1, none⟩ = some (.int .i64 y2) := Later.cell (by rw [(hn0.below hbB).cell (by omega), i1])
 have n2 : ∀ x : Later (W.alloc (.cells #[.int .i64 x1, .int .i64 x2, .int .i64 x3] 50)), x.at.cell? ⟨g, p * 7 + 2, none⟩ = some (.int .i64 y3) := Later.cell (by rw [(hn0.below hbB).cell (by omega), i2])
 have hd0 : decide (cmpF ⟨x1, x2, x3⟩ ⟨y1, y2, y3⟩ < 0) = false := decide_eq_false (fun e => lt_asymm hgt_ (cmpF_lt.1 e))
 have hd1 : decide (cmpF ⟨x1, x2, x3⟩ ⟨y1, y2, y3⟩ > 0) = true := decide_eq_true (cmpF_gt.2 hgt_)
 have h0 : (0 : Int) ≤ (p : Int) := by omega
 have h1 : (p : Int) < (nn : Int) := by omega
 have n3 : ∀ x : Later (W.alloc (.cells #[.int .i64 x1, .int .i64 x2, .int .i64 x3] 50)), x.at.cell? ⟨g, p * 7 + 4, none⟩ = some (.int .i64 (a (p * 7 + 4))) := Later.cell ((hn0.below hbB).cell (by omega))
 clear h hh hnd hw hrow hm hb bh ih i0 i1 i2 hn0 hgt_ hbB hrow' hm' hrs hms
 unfold Drops
 rw [HE.out, HG.out]
 clear HE HG
 go_enter Try.func62, Try.ntmps62
 go_wp2_with fail
 clear c0
 refine wp_region_later (by kernel_rfl) (by kernel_rfl) ?_
 repeat (go_big_quiet_step (first
  | (go_at_call 55; with_reducible exact later_of (compare_is x1 x2 x3 y1 y2 y3 _))))
 refine wpQuiet_nil ?_
 rintro _ ⟨xl, rfl⟩
 have HX1 := Lib.hid xl.below
 have HA1 := Lib.hid (HA0.out.below HX1.out)
 have HB1 := Lib.hid (below_then HBB.out HBQ.out HX1.out)
 have z0 := z0 xl
 have z1 := z1 xl
 have z2 := z2 xl
 have n3 := n3 xl
 clear n0 n1 n2 HX1 HA0
 generalize xl.at = w1 at *
 clear xl
 have HAd := Lib.hid (HA1.out.below (below_drew (Below.refl _ _)))
 have HBd : Hid (Below base W w1.drew) := Lib.hid (below_drew HB1.out)
 have HC := Lib.hid (HIH.out w1.drew HAd.out)
 clear HIH
 go_wp2_with fail
 go_region_with (first
   | (go_at_call 62; refine HC.out.mono ?_; rintro e w3 ⟨rfl, hb3, a3, vf3, hA3, hg3, ho3, hz3⟩; have HB3 := Lib.hid (HBd.out.trans hb3); have HA3 := Lib.hid hA3; have HG3 := Lib.hid hg3; have HO3 := Lib.hid ho3; have HZ3 := Lib.hid hz3; obtain ⟨g3, eg3, hn3, _, _⟩ := hA3.nds (by omega); injection eg3 with eg3; injection eg3 with eg3; subst eg3; have HN3 := Lib.hid hn3; have s3 := hn3.cell (j := p * 7 + 4) (by omega); have f3 := hn3.frozen (p * 7 + 4); clear hb3 hA3 hg3 ho3 hz3 hn3))
 all_goals (
  obtain ⟨hhf, hnd', hgn, hz4, hsub⟩ := HPH.out a3 HG3.out HO3.out HZ3.out
  have HHF := Lib.hid hhf
  have HND := Lib.hid hnd'
  have HGN := Lib.hid hgn
  have HZ4 := Lib.hid hz4
  have HSB := Lib.hid hsub
  have HG4 : Hid (But g w3 (w3.setCell ⟨g, p * 7 + 4, none⟩ (.int .i64 (plc (drop r ⟨x1, x2, x3⟩))))) := Lib.hid (But.set g (p * 7 + 4) w3 _)
  have HN4 : Hid (Nds (w3.setCell ⟨g, p * 7 + 4, none⟩ (.int .i64 (plc (drop r ⟨x1, x2, x3⟩)))) g nn (upd a3 (p * 7 + 4) (plc (drop r ⟨x1, x2, x3⟩)))) := Lib.hid (HN3.out.set _ _)
  have HA4 := Lib.hid (HA3.out.but HG4.out HN4.out)
  have HB4 := Lib.hid (HB3.out.trans (HG4.out.below hbg (by have := HA3.out.qlt; have := HA3.out.hq; omega)))
  have HO4 : Hid (Off (fun s => s ∈ places (.node p ⟨y1, y2, y3⟩ l r)) a (upd a3 (p * 7 + 4) (plc (drop r ⟨x1, x2, x3⟩)))) := Lib.hid ((HO3.out.mono (fun s hs => by simp [places, hs])).trans ((Off.upd a3 p 4 _ (by omega)).mono (fun s hs => by simp [places, hs])))
  have HW4 : Hid (Within nn (.node p ⟨y1, y2, y3⟩ l (drop r ⟨x1, x2, x3⟩))) := Lib.hid (fun s hs => HW.out s (hsub s hs))
  clear s3 f3 HB3 HA3 HN3 HO3 HG4 HG3 HZ3 hhf hnd' hgn hz4 hsub HPH HC z0 z1 z2 n3 HA1 HB1 HAd HBd
  generalize w3.setCell ⟨g, p * 7 + 4, none⟩ (.int .i64 (plc (drop r ⟨x1, x2, x3⟩))) = w4 at *
  generalize upd a3 (p * 7 + 4) (plc (drop r ⟨x1, x2, x3⟩)) = a4 at *
  have HEV := Lib.hid (even_is q g nn cn p a4 ⟨y1, y2, y3⟩ l (drop r ⟨x1, x2, x3⟩) w4 HA4.out.hd HN4.out hqg HHF.out HND.out HW4.out HBL.out.2 HBL.out.1)
  go_wp2_with fail
  refine (HEV.out).mono ?_
  rintro e w5 ⟨rfl, hb5, a5, hn5, hg5, ho5⟩
  have HF : Hid (Below base W w5 ∧ ∃ a' vf', Ar w5 base q (some ⟨g, 0, none⟩) nn cn a' vf' (fr ++ [((gone r ⟨x1, x2, x3⟩ : Nat) : Int)]) root ∧ Hang a' (even p ⟨y1, y2, y3⟩ l (drop r ⟨x1, x2, x3⟩)) (plc (even p ⟨y1, y2, y3⟩ l (drop r ⟨x1, x2, x3⟩))) ∧ Off (fun s => s ∈ places (.node p ⟨y1, y2, y3⟩ l r)) a a' ∧ ∀ k, k < 7 → a' (gone r ⟨x1, x2, x3⟩ * 7 + k) = 0) := Lib.hid ⟨HB4.out.trans (hb5.below hbg (by have := HA4.out.qlt; have := HA4.out.hq; omega)), a5, _, HA4.out.but hb5 hn5, hg5, HO4.out.trans (ho5.mono HSB.out), fun k hk => (ho5 _ HGN.out k hk).trans (HZ4.out k hk)⟩
  clear hb5 hn5 hg5 ho5 HEV
  go_wp2
  go_ret
  exact ⟨rfl, HF.out⟩)
end Go.Proofs.Ytgkjpffbgnljeaa.Man
/- arena.drop, the item itself: an item taken away that hangs at a place or below it. -/
set_option linter.unusedVariables false
set_option linter.unusedSimpArgs false
namespace Go.Proofs.Ytgkjpffbgnljeaa.Man
open Go.RowKit Go.Proofs.Ytgkjpffbgnljeaa.QT Go.Proofs.Ytgkjpffbgnljeaa.TreeM Go.Proofs.YtgkjpffbgnljeaaW.PrintWords Go.Proofs.YtgkjpffbgnljeaaW.PrintLast Go.Proofs.YtgkjpffbgnljeaaW.PrintMore
attribute [local go_sem] max2_mx min2_mn max_two min_two
set_option maxHeartbeats 4000000 in
set_option maxRecDepth 100000 in
theorem drop_nl (W : World) (base q g nn cn : Nat) (a : Cells) (vf : Value) (fr : List Int) (root : Int) (x : Itm) (p : Nat) (y : Itm) (r : T) (h : Ar W base q (some ⟨g, 0, none⟩) nn cn a vf fr root) (hl : fr.length ≤ 1000000) (hh : Hang a (.node p y .nil r) (p : Int)) (hnd : (places (.node p y .nil r)).Nodup) (hw : Within nn (.node p y .nil r)) (hrow : Row (items (.node p y .nil r))) (hm : x ∈ items (.node p y .nil r)) (hb : bal (.node p y .nil r)) (bh : hgt (.node p y .nil r) ≤ 800) (hxy : x = y) :
  Drops W base q g nn cn root a (.node p y .nil r) (p : Int) x fr := by
 have HE : Hid (drop (.node p y .nil r) x = r) := Lib.hid (by rw [drop, if_neg (by rw [hxy]; exact lt_irrefl _), if_neg (by rw [hxy]; exact lt_irrefl _), if_pos rfl])
 have HG : Hid (gone (.node p y .nil r) x = p) := Lib.hid (by rw [gone, if_neg (by rw [hxy]; exact lt_irrefl _), if_neg (by rw [hxy]; exact lt_irrefl _), if_pos rfl])
 have HK : Hid (Hang (blank a p) r (plc r)) := Lib.hid (by
  have g1 := hh.2.2.2.1
  rw [g1.plc] at g1
  exact Hang.off (blank_off a p) g1 (fun s hs e => (Apart.of hnd).nr (e ▸ hs)))
 have HOF : Hid (Off (fun s => s ∈ places (.node p y .nil r)) a (blank a p)) := Lib.hid ((blank_off a p).mono (fun s hs => by rw [hs]; simp [places]))
 have e3 : a (p * 7 + 3) = (-1) := hh.2.2.1
 have e4 : a (p * 7 + 4) = (plc r) := hh.2.2.2.1.plc
 have hIt : ItAt a p y := hh.2.1
 obtain ⟨x1, x2, x3⟩ := x
 obtain ⟨y1, y2, y3⟩ := y
 obtain ⟨i0, i1, i2⟩ := hIt
 simp only at i0 i1 i2
 have hp : p < nn := hw.p
 obtain ⟨g', eg, hn0, hqg, hbg⟩ := h.nds (by omega)
 injection eg with eg
 injection eg with eg
 subst eg
 have hbB : Below W.heap.size W (W.alloc (.cells #[.int .i64 x1, .int .i64 x2, .int .i64 x3] 50)) := (Below.refl _ _).alloc (Nat.le_refl _) _
 have HBB : Hid (Below base W (W.alloc (.cells #[.int .i64 x1, .int .i64 x2, .int .i64 x3] 50))) := Lib.hid ((Below.refl _ _).alloc (by have := h.qlt; have := h.hq; omega) _)
 have HA0 := Lib.hid (h.below hbB)
 have HBQ : Hid (base ≤ (W.alloc (.cells #[.int .i64 x1, .int .i64 x2, .int .i64 x3] 50)).heap.size) := Lib.hid (by have := HBB.out.size; have := h.qlt; have := h.hq; omega)
 have c0 := (h.hd.below hbB).cell
 have z0 : ∀ x : Later (W.alloc (.cells #[.int .i64 x1, .int .i64 x2, .int .i64 x3] 50)), x.at.cell? ⟨W.heap.size, 0, none⟩ = some (.int .i64 x1) := fun x => Later.cell (by rw [blk_cell (blk_new W _) 0]; rfl) x
 have z1 : ∀ x : Later (W.alloc (.cells #[.int .i64 x1, .int .i64 x2, .int .i64 x3] 50)), x.at.cell? ⟨W.heap.size, 1, none⟩ = some (.int .i64 x2) := fun x => Later.cell (by rw [blk_cell (blk_new W _) 1]; rfl) x
 have z2 : ∀ x : Later (W.alloc (.cells #[.int .i64 x1, .int .i64 x2, .int .i64 x3] 50)), x.at.cell? ⟨W.heap.size, 2, none⟩ = some (.int .i64 x3) := fun x => Later.cell (by rw [blk_cell (blk_new W _) 2]; rfl) x
 have n0 : ∀ x : Later (W.alloc (.cells #[.int .i64 x1, .int .i64 x2, .int .i64 x3] 50)), x.at.cell? ⟨g, p * 7, none⟩ = some (.int .i64 y1) := Later.cell (by rw [(hn0.below hbB).cell (by omega), i0])
 have n1 : ∀ x : Later (W.alloc (.cells #[.int .i64 x1, .int .i64 x2, .int .i64 x3] 50)), x.at.cell? ⟨g, p * 7 + 1, none⟩ = some (.int .i64 y2) := Later.cell (by rw [(hn0.below hbB).cell (by omega), i1])
 have n2 : ∀ x : Later (W.alloc (.cells #[.int .i64 x1, .int .i64 x2, .int .i64 x3] 50)), x.at.cell? ⟨g, p * 7 + 2, none⟩ = some (.int .i64 y3) := Later.cell (by rw [(hn0.below hbB).cell (by omega), i2])
 have hd0 : decide (cmpF ⟨x1, x2, x3⟩ ⟨y1, y2, y3⟩ < 0) = false := decide_eq_false (fun e => by rw [cmpF_lt, hxy] at e; exact lt_irrefl _ e)
 have hd1 : decide (cmpF ⟨x1, x2, x3⟩ ⟨y1, y2, y3⟩ > 0) = false := decide_eq_false (fun e => by rw [cmpF_gt, hxy] at e; exact lt_irrefl _ e)
 have h0 : (0 : Int) ≤ (p : Int) := by omega
 have h1 : (p : Int) < (nn : Int) := by omega
 have n3 : ∀ x : Later (W.alloc (.cells #[.int .i64 x1, .int .i64 x2, .int .i64 x3] 50)), x.at.cell? ⟨g, p * 7 + 3, none⟩ = some (.int .i64 (-1)) := Later.cell (by rw [(hn0.below hbB).cell (by omega), e3])
 have n4 : ∀ x : Later (W.alloc (.cells #[.int .i64 x1, .int .i64 x2, .int .i64 x3] 50)), x.at.cell? ⟨g, p * 7 + 4, none⟩ = some (.int .i64 (plc r)) := Later.cell (by rw [(hn0.below hbB).cell (by omega), e4])
 clear h hh hnd hw hrow hm hb bh i0 i1 i2 hn0 hbB hxy e3 e4
 unfold Drops
 rw [HE.out, HG.out]
 clear HE HG
 go_enter Try.func62, Try.ntmps62
 go_wp2_with fail
 clear c0
 refine wp_region_later (by kernel_rfl) (by kernel_rfl) ?_
 repeat (go_big_quiet_step (first
  | (go_at_call 55; with_reducible exact later_of (compare_is x1 x2 x3 y1 y2 y3 _))))
 refine wpQuiet_nil ?_
 rintro _ ⟨xl, rfl⟩
 have HX1 := Lib.hid xl.below
 have HA1 := Lib.hid (HA0.out.below HX1.out)
 have HB1 := Lib.hid (below_then HBB.out HBQ.out HX1.out)
 have z0 := z0 xl
 have z1 := z1 xl
 have z2 := z2 xl
 have n3 := n3 xl
 have n4 := n4 xl
 clear n0 n1 n2 HX1 HA0
 generalize xl.at = w1 at *
 clear xl
 have hmx := plc_max_r r
 have HCL := Lib.hid (clear_is w1.drew base q (some ⟨g, 0, none⟩) nn cn a vf fr root p (HA1.out.below (below_drew (Below.refl _ _))) hp hl)
 have HBd : Hid (Below base W w1.drew) := Lib.hid (below_drew HB1.out)
 generalize cmpF ⟨x1, x2, x3⟩ ⟨y1, y2, y3⟩ = cv at *
 go_wp2_with fail
 go_region
 clear z0 z1 z2 n3 n4 HA1 HB1
 generalize w1.drew = w2 at *
 go_wp2_with fail
 refine HCL.out.mono ?_
 rintro e w3 ⟨rfl, hb3, vf3, hA3⟩
 have HF : Hid (Below base W w3 ∧ ∃ a' vf', Ar w3 base q (some ⟨g, 0, none⟩) nn cn a' vf' (fr ++ [((p : Nat) : Int)]) root ∧ Hang a' r (plc r) ∧ Off (fun s => s ∈ places (.node p ⟨y1, y2, y3⟩ .nil r)) a a' ∧ ∀ k, k < 7 → a' (p * 7 + k) = 0) := Lib.hid ⟨HBd.out.trans hb3, _, vf3, hA3, HK.out, HOF.out, fun k hk => blank_at a p k hk⟩
 clear hb3 hA3 HCL
 go_wp2
 go_ret
 exact ⟨rfl, HF.out⟩
set_option maxHeartbeats 4000000 in
set_option maxRecDepth 100000 in
theorem drop_nr (W : World) (base q g nn cn : Nat) (a : Cells) (vf : Value) (fr : List Int) (root : Int) (x : Itm) (p : Nat) (y : Itm) (l : T) (h : Ar W base q (some ⟨g, 0, none⟩) nn cn a vf fr root) (hl : fr.length ≤ 1000000) (hh : Hang a (.node p y l .nil) (p : Int)) (hnd : (places (.node p y l .nil)).Nodup) (hw : Within nn (.node p y l .nil)) (hrow : Row (items (.node p y l .nil))) (hm : x ∈ items (.node p y l .nil)) (hb : bal (.node p y l .nil)) (bh : hgt (.node p y l .nil) ≤ 800) (hxy : x = y) (hne : l ≠ .nil) :
  Drops W base q g nn cn root a (.node p y l .nil) (p : Int) x fr := by
 have HE : Hid (drop (.node p y l .nil) x = l) := Lib.hid (by rw [drop, if_neg (by rw [hxy]; exact lt_irrefl _), if_neg (by rw [hxy]; exact lt_irrefl _), if_neg hne, if_pos rfl])
 have HG : Hid (gone (.node p y l .nil) x = p) := Lib.hid (by rw [gone, if_neg (by rw [hxy]; exact lt_irrefl _), if_neg (by rw [hxy]; exact lt_irrefl _), if_neg hne, if_pos rfl])
 have HK : Hid (Hang (blank a p) l (plc l)) := Lib.hid (by
  have g1 := hh.2.2.1
  rw [g1.plc] at g1
  exact Hang.off (blank_off a p) g1 (fun s hs e => (Apart.of hnd).nl (e ▸ hs)))
 have HOF : Hid (Off (fun s => s ∈ places (.node p y l .nil)) a (blank a p)) := Lib.hid ((blank_off a p).mono (fun s hs => by rw [hs]; simp [places]))
 have e3 : a (p * 7 + 3) = (plc l) := hh.2.2.1.plc
 have e4 : a (p * 7 + 4) = (-1) := hh.2.2.2.1
 have hd3 : (plc l == -1) = false := by match l, hne with | .nil, hne => exact absurd rfl hne | .node s _ _ _, _ => simp [plc]
 have hIt : ItAt a p y := hh.2.1
 obtain ⟨x1, x2, x3⟩ := x
 obtain ⟨y1, y2, y3⟩ := y
 obtain ⟨i0, i1, i2⟩ := hIt
 simp only at i0 i1 i2
 have hp : p < nn := hw.p
 obtain ⟨g', eg, hn0, hqg, hbg⟩ := h.nds (by omega)
 injection eg with eg
 injection eg with eg
 subst eg
 have hbB : Below W.heap.size W (W.alloc (.cells #[.int .i64 x1, .int .i64 x2, .int .i64 x3] 50)) := (Below.refl _ _).alloc (Nat.le_refl _) _
 have HBB : Hid (Below base W (W.alloc (.cells #[.int .i64 x1, .int .i64 x2, .int .i64 x3] 50))) := Lib.hid ((Below.refl _ _).alloc (by have := h.qlt; have := h.hq; omega) _)
 have HA0 := Lib.hid (h.below hbB)
 have HBQ : Hid (base ≤ (W.alloc (.cells #[.int .i64 x1, .int .i64 x2, .int .i64 x3] 50)).heap.size) := Lib.hid (by have := HBB.out.size; have := h.qlt; have := h.hq; omega)
 have c0 := (h.hd.below hbB).cell
 have z0 : ∀ x : Later (W.alloc (.cells #[.int .i64 x1, .int .i64 x2, .int .i64 x3] 50)), x.at.cell? ⟨W.heap.size, 0, none⟩ = some (.int .i64 x1) := fun x => Later.cell (by rw [blk_cell (blk_new W _) 0]; rfl) x
 have z1 : ∀ x : Later (W.alloc (.cells #[.int .i64 x1, .int .i64 x2, .int .i64 x3] 50)), x.at.cell? ⟨W.heap.size, 1, none⟩ = some (.int .i64 x2) := fun x => Later.cell (by rw [blk_cell (blk_new W _) 1]; rfl) x
 have z2 : ∀ x : Later (W.alloc (.cells #[.int .i64 x1, .int .i64 x2, .int .i64 x3] 50)), x.at.cell? ⟨W.heap.size, 2, none⟩ = some (.int .i64 x3) := fun x => Later.cell (by rw [blk_cell (blk_new W _) 2]; rfl) x
 have n0 : ∀ x : Later (W.alloc (.cells #[.int .i64 x1, .int .i64 x2, .int .i64 x3] 50)), x.at.cell? ⟨g, p * 7, none⟩ = some (.int .i64 y1) := Later.cell (by rw [(hn0.below hbB).cell (by omega), i0])
 have n1 : ∀ x : Later (W.alloc (.cells #[.int .i64 x1, .int .i64 x2, .int .i64 x3] 50)), x.at.cell? ⟨g, p * 7 + 1, none⟩ = some (.int .i64 y2) := Later.cell (by rw [(hn0.below hbB).cell (by omega), i1])
 have n2 : ∀ x : Later (W.alloc (.cells #[.int .i64 x1, .int .i64 x2, .int .i64 x3] 50)), x.at.cell? ⟨g, p * 7 + 2, none⟩ = some (.int .i64 y3) := Later.cell (by rw [(hn0.below hbB).cell (by omega), i2])
 have hd0 : decide (cmpF ⟨x1, x2, x3⟩ ⟨y1, y2, y3⟩ < 0) = false := decide_eq_false (fun e => by rw [cmpF_lt, hxy] at e; exact lt_irrefl _ e)
 have hd1 : decide (cmpF ⟨x1, x2, x3⟩ ⟨y1, y2, y3⟩ > 0) = false := decide_eq_false (fun e => by rw [cmpF_gt, hxy] at e; exact lt_irrefl _ e)
 have h0 : (0 : Int) ≤ (p : Int) := by omega
 have h1 : (p : Int) < (nn : Int) := by omega
 have n3 : ∀ x : Later (W.alloc (.cells #[.int .i64 x1, .int .i64 x2, .int .i64 x3] 50)), x.at.cell? ⟨g, p * 7 + 3, none⟩ = some (.int .i64 (plc l)) := Later.cell (by rw [(hn0.below hbB).cell (by omega), e3])
 have n4 : ∀ x : Later (W.alloc (.cells #[.int .i64 x1, .int .i64 x2, .int .i64 x3] 50)), x.at.cell? ⟨g, p * 7 + 4, none⟩ = some (.int .i64 (-1)) := Later.cell (by rw [(hn0.below hbB).cell (by omega), e4])
 clear h hh hnd hw hrow hm hb bh i0 i1 i2 hn0 hbB hxy e3 e4 hne
 unfold Drops
 rw [HE.out, HG.out]
 clear HE HG
 go_enter Try.func62, Try.ntmps62
 go_wp2_with fail
 clear c0
 refine wp_region_later (by kernel_rfl) (by kernel_rfl) ?_
 repeat (go_big_quiet_step (first
  | (go_at_call 55; with_reducible exact later_of (compare_is x1 x2 x3 y1 y2 y3 _))))
 refine wpQuiet_nil ?_
 rintro _ ⟨xl, rfl⟩
 have HX1 := Lib.hid xl.below
 have HA1 := Lib.hid (HA0.out.below HX1.out)
 have HB1 := Lib.hid (below_then HBB.out HBQ.out HX1.out)
 have z0 := z0 xl
 have z1 := z1 xl
 have z2 := z2 xl
 have n3 := n3 xl
 have n4 := n4 xl
 clear n0 n1 n2 HX1 HA0
 generalize xl.at = w1 at *
 clear xl
 have hmx := plc_max_l l
 have HCL := Lib.hid (clear_is w1.drew base q (some ⟨g, 0, none⟩) nn cn a vf fr root p (HA1.out.below (below_drew (Below.refl _ _))) hp hl)
 have HBd : Hid (Below base W w1.drew) := Lib.hid (below_drew HB1.out)
 generalize cmpF ⟨x1, x2, x3⟩ ⟨y1, y2, y3⟩ = cv at *
 go_wp2_with fail
 go_region
 clear z0 z1 z2 n3 n4 HA1 HB1
 generalize w1.drew = w2 at *
 go_wp2_with fail
 refine HCL.out.mono ?_
 rintro e w3 ⟨rfl, hb3, vf3, hA3⟩
 have HF : Hid (Below base W w3 ∧ ∃ a' vf', Ar w3 base q (some ⟨g, 0, none⟩) nn cn a' vf' (fr ++ [((p : Nat) : Int)]) root ∧ Hang a' l (plc l) ∧ Off (fun s => s ∈ places (.node p ⟨y1, y2, y3⟩ l .nil)) a a' ∧ ∀ k, k < 7 → a' (p * 7 + k) = 0) := Lib.hid ⟨HBd.out.trans hb3, _, vf3, hA3, HK.out, HOF.out, fun k hk => blank_at a p k hk⟩
 clear hb3 hA3 HCL
 go_wp2
 go_ret
 exact ⟨rfl, HF.out⟩
set_option maxHeartbeats 4000000 in
set_option maxRecDepth 100000 in
theorem drop_two (W : World) (base q g nn cn : Nat) (a : Cells) (vf : Value) (fr : List Int) (root : Int) (x : Itm) (p : Nat) (y : Itm) (l r : T) (h : Ar W base q (some ⟨g, 0, none⟩) nn cn a vf fr root) (hl : fr.length ≤ 1000000) (hh : Hang a (.node p y l r) (p : Int)) (hnd : (places (.node p y l r)).Nodup) (hw : Within nn (.node p y l r)) (hrow : Row (items (.node p y l r))) (hm : x ∈ items (.node p y l r)) (hb : bal (.node p y l r)) (bh : hgt (.node p y l r) ≤ 800) (hxy : x = y) (hne : l ≠ .nil) (hnr : r ≠ .nil)
  (ih : ∀ W' a', Ar W' base q (some ⟨g, 0, none⟩) nn cn a' vf fr root → Hang a' r (a' (p * 7 + 4)) → Drops W' base q g nn cn root a' r (a' (p * 7 + 4)) (first r) fr) :
  Drops W base q g nn cn root a (.node p y l r) (p : Int) x fr := by
 have HE : Hid (drop (.node p y l r) x = even p (first r) l (drop r (first r))) := Lib.hid (by rw [drop, if_neg (by rw [hxy]; exact lt_irrefl _), if_neg (by rw [hxy]; exact lt_irrefl _), if_neg hne, if_neg hnr])
 have HG : Hid (gone (.node p y l r) x = gone r (first r)) := Lib.hid (by rw [gone, if_neg (by rw [hxy]; exact lt_irrefl _), if_neg (by rw [hxy]; exact lt_irrefl _), if_neg hne, if_neg hnr])
 have hrow' : Row (items l ++ y :: items r) := hrow
 have hrs : Row (items r) := (row_parts hrow').2.1
 have hms : first r ∈ items r := first_mem r hnr
 have HBL : Hid (hgt (drop r (first r)) ≤ 900 ∧ hgt l ≤ 900) := Lib.hid (by have := (drop_bal r (first r) hrs hms hb.2.1).2; simp only [hgt] at bh; omega)
 have HHA := Lib.hid (relay_half (z := first r) hh.half (Apart.of hnd))
 have HPH : Hid (∀ a3, Hang a3 (drop r (first r)) (plc (drop r (first r))) → Off (fun s => s ∈ places r) (relay a p (first r)) a3 → (∀ k, k < 7 → a3 (gone r (first r) * 7 + k) = 0) → Half (upd a3 (p * 7 + 4) (plc (drop r (first r)))) p (first r) l (drop r (first r)) ∧ (places (.node p (first r) l (drop r (first r)))).Nodup ∧ gone r (first r) ∉ places (.node p (first r) l (drop r (first r))) ∧ (∀ k, k < 7 → upd a3 (p * 7 + 4) (plc (drop r (first r))) (gone r (first r) * 7 + k) = 0) ∧ ∀ s, s ∈ places (.node p (first r) l (drop r (first r))) → s ∈ places (.node p (first r) l r)) := Lib.hid fun a3 g1 g2 g3 => drop_half_r HHA.out hnd hrs hms g1 g2 g3
 have HW : Hid (Within nn (.node p (first r) l r)) := Lib.hid hw
 have HIH := Lib.hid ih
 have HRO := Lib.hid (relay_off a p (first r))
 have HFI : Hid (∀ W', Hd W' q (.slice (some ⟨g, 0, none⟩) nn cn) → Nds W' g nn a → Calls Try.prog 92 #[.pointer (some ⟨q, 0, none⟩), .int .i64 (plc r)] W' fun e W'' => e = .returned (.agg #[.int .i64 (first r).fr, .int .i64 (first r).to_, .int .i64 (first r).id]) ∧ Below W'.heap.size W' W'') := Lib.hid fun W' g1 g2 => first_is q _ nn cn a r _ W' g1 g2.rd (by have := hh.2.2.2.1; rw [this.plc] at this; exact this) hw.r hnr
 have e3 : a (p * 7 + 3) = plc l := hh.2.2.1.plc
 have e4 : a (p * 7 + 4) = plc r := hh.2.2.2.1.plc
 have hd3 : (plc l == -1) = false := by match l, hne with | .nil, hne => exact absurd rfl hne | .node s _ _ _, _ => simp [plc]
 have hd4 : (plc r == -1) = false := by match r, hnr with | .nil, hne => exact absurd rfl hne | .node s _ _ _, _ => simp [plc]
 have hIt : ItAt a p y := hh.2.1
 obtain ⟨x1, x2, x3⟩ := x
 obtain ⟨y1, y2, y3⟩ := y
 obtain ⟨i0, i1, i2⟩ := hIt
 simp only at i0 i1 i2
 have hp : p < nn := hw.p
 obtain ⟨g', eg, hn0, hqg, hbg⟩ := h.nds (by omega)
 injection eg with eg
 injection eg with eg
 subst eg
 have hbB : Below W.heap.size W (W.alloc (.cells #[.int .i64 x1, .int .i64 x2, .int .i64 x3] 50)) := (Below.refl _ _).alloc (Nat.le_refl _) _
 have HBB : Hid (Below base W (W.alloc (.cells #[.int .i64 x1, .int .i64 x2, .int .i64 x3] 50))) := Lib.hid ((Below.refl _ _).alloc (by have := h.qlt; have := h.hq; omega) _)
 have HA0 := Lib.hid (h.below hbB)
 have HBQ : Hid (base ≤ (W.alloc (.cells #[.int .i64 x1, .int .i64 x2, .int .i64 x3] 50)).heap.size) := Lib.hid (by have := HBB.out.size; have := h.qlt; have := h.hq; omega)
 have c0 := (h.hd.below hbB).cell
 have z0 : ∀ x : Later (W.alloc (.cells #[.int .i64 x1, .int .i64 x2, .int .i64 x3] 50)), x.at.cell? ⟨W.heap.size, 0, none⟩ = some (.int .i64 x1) := fun x => Later.cell (by rw [blk_cell (blk_new W _) 0]; rfl) x
 have z1 : ∀ x : Later (W.alloc (.cells #[.int .i64 x1, .int .i64 x2, .int .i64 x3] 50)), x.at.cell? ⟨W.heap.size, 1, none⟩ = some (.int .i64 x2) := fun x => Later.cell (by rw [blk_cell (blk_new W _) 1]; rfl) x
 have z2 : ∀ x : Later (W.alloc (.cells #[.int .i64 x1, .int .i64 x2, .int .i64 x3] 50)), x.at.cell? ⟨W.heap.size, 2, none⟩ = some (.int .i64 x3) := fun x => Later.cell (by rw [blk_cell (blk_new W _) 2]; rfl) x
 have n0 : ∀ x : Later (W.alloc (.cells #[.int .i64 x1, .int .i64 x2, .int .i64 x3] 50)), x.at.cell? ⟨g, p * 7, none⟩ = some (.int .i64 y1) := Later.cell (by rw [(hn0.below hbB).cell (by omega), i0])
 have n1 : ∀ x : Later (W.alloc (.cells #[.int .i64 x1, .int .i64 x2, .int .i64 x3] 50)), x.at.cell? ⟨g, p * 7 + 1, none⟩ = some (.int .i64 y2) := Later.cell (by rw [(hn0.below hbB).cell (by omega), i1])
 have n2 : ∀ x : Later (W.alloc (.cells #[.int .i64 x1, .int .i64 x2, .int .i64 x3] 50)), x.at.cell? ⟨g, p * 7 + 2, none⟩ = some (.int .i64 y3) := Later.cell (by rw [(hn0.below hbB).cell (by omega), i2])
 have hd0 : decide (cmpF ⟨x1, x2, x3⟩ ⟨y1, y2, y3⟩ < 0) = false := decide_eq_false (fun e => by rw [cmpF_lt, hxy] at e; exact lt_irrefl _ e)
 have hd1 : decide (cmpF ⟨x1, x2, x3⟩ ⟨y1, y2, y3⟩ > 0) = false := decide_eq_false (fun e => by rw [cmpF_gt, hxy] at e; exact lt_irrefl _ e)
 have h0 : (0 : Int) ≤ (p : Int) := by omega
 have h1 : (p : Int) < (nn : Int) := by omega
 have n3 : ∀ x : Later (W.alloc (.cells #[.int .i64 x1, .int .i64 x2, .int .i64 x3] 50)), x.at.cell? ⟨g, p * 7 + 3, none⟩ = some (.int .i64 (plc l)) := Later.cell (by rw [(hn0.below hbB).cell (by omega), e3])
 have n4 : ∀ x : Later (W.alloc (.cells #[.int .i64 x1, .int .i64 x2, .int .i64 x3] 50)), x.at.cell? ⟨g, p * 7 + 4, none⟩ = some (.int .i64 (plc r)) := Later.cell (by rw [(hn0.below hbB).cell (by omega), e4])
 have HN0 := Lib.hid hn0
 have HV4 : Hid (relay a p (first r) (p * 7 + 4) = plc r) := Lib.hid (by unfold relay; rw [upd_ne (by omega), upd_ne (by omega), upd_ne (by omega), e4])
 clear h hh hnd hw hrow hm hb bh i0 i1 i2 hn0 hbB hxy hne hnr ih hrow' hrs hms e3 e4
 unfold Drops
 rw [HE.out, HG.out]
 clear HE HG
 generalize hu : first r = u at *
 obtain ⟨u1, u2, u3⟩ := u
 have HU := Lib.hid hu
 clear hu
 go_enter Try.func62, Try.ntmps62
 go_wp2_with fail
 clear c0
 refine wp_region_later (by kernel_rfl) (by kernel_rfl) ?_
 repeat (go_big_quiet_step (first
  | (go_at_call 55; with_reducible exact later_of (compare_is x1 x2 x3 y1 y2 y3 _))))
 refine wpQuiet_nil ?_
 rintro _ ⟨xl, rfl⟩
 have HX1 := Lib.hid xl.below
 have HA1 := Lib.hid (HA0.out.below HX1.out)
 have HB1 := Lib.hid (below_then HBB.out HBQ.out HX1.out)
 have z0 := z0 xl
 have z1 := z1 xl
 have z2 := z2 xl
 have n3 := n3 xl
 have n4 := n4 xl
 clear n0 n1 n2 HX1 HA0
 generalize xl.at = w1 at *
 clear xl
 generalize cmpF ⟨x1, x2, x3⟩ ⟨y1, y2, y3⟩ = cv at *
 obtain ⟨g1, eg1, hn1, _, _⟩ := HA1.out.nds (by omega)
 injection eg1 with eg1
 injection eg1 with eg1
 subst eg1
 have HN1 := Lib.hid hn1
 clear hn1
 go_wp2_with fail
 refine (HFI.out w1 HA1.out.hd HN1.out).mono ?_
 rintro e w2 ⟨rfl, hb2⟩
 have HA2 := Lib.hid (HA1.out.below hb2)
 have hn2 := HN1.out.below hb2
 have HN2 := Lib.hid hn2
 have HB2 := Lib.hid (below_then HB1.out (by have := HA1.out.qlt; have := HA1.out.hq; omega) hb2)
 have m0 := hn2.cell (j := p * 7) (by omega)
 have m1 := hn2.cell (j := p * 7 + 1) (by omega)
 have m2 := hn2.cell (j := p * 7 + 2) (by omega)
 have f0 := hn2.frozen (p * 7)
 have f1 := hn2.frozen (p * 7 + 1)
 have f2 := hn2.frozen (p * 7 + 2)
 clear z0 z1 z2 n3 n4 HA1 HB1 HN1 hb2 hn2 HFI HN0
 go_wp2_with fail
 have HG3 : Hid (But g w2 (((w2.setCell ⟨g, p * 7, none⟩ (.int .i64 u1)).setCell ⟨g, p * 7 + 1, none⟩ (.int .i64 u2)).setCell ⟨g, p * 7 + 2, none⟩ (.int .i64 u3))) := Lib.hid (((But.set g (p * 7) w2 (.int .i64 u1)).trans (But.set g (p * 7 + 1) _ (.int .i64 u2))).trans (But.set g (p * 7 + 2) _ (.int .i64 u3)))
 have HN3 : Hid (Nds (((w2.setCell ⟨g, p * 7, none⟩ (.int .i64 u1)).setCell ⟨g, p * 7 + 1, none⟩ (.int .i64 u2)).setCell ⟨g, p * 7 + 2, none⟩ (.int .i64 u3)) g nn (relay a p ⟨u1, u2, u3⟩)) := Lib.hid (((HN2.out.set (p * 7) u1).set (p * 7 + 1) u2).set (p * 7 + 2) u3)
 have HA3 := Lib.hid (HA2.out.but HG3.out HN3.out)
 have HB3 := Lib.hid (HB2.out.trans (HG3.out.below hbg (by have := HA2.out.qlt; have := HA2.out.hq; omega)))
 clear m0 m1 m2 f0 f1 f2 HA2 HB2 HN2 HG3
 generalize (((w2.setCell ⟨g, p * 7, none⟩ (.int .i64 u1)).setCell ⟨g, p * 7 + 1, none⟩ (.int .i64 u2)).setCell ⟨g, p * 7 + 2, none⟩ (.int .i64 u3)) = w3 at *
 generalize relay a p ⟨u1, u2, u3⟩ = ar at *
 have HAd := Lib.hid (HA3.out.below (below_drew (Below.refl _ _)))
 have HBd : Hid (Below base W w3.drew) := Lib.hid (below_drew HB3.out)
 have HC : Hid (Drops w3.drew base q g nn cn root ar r (plc r) ⟨u1, u2, u3⟩ fr) := Lib.hid (by
  have := HIH.out w3.drew ar HAd.out HHA.out.2.2
  rwa [HV4.out] at this)
 have d0 := HN3.out.drew.cell (j := p * 7) (by omega)
 have d1 := HN3.out.drew.cell (j := p * 7 + 1) (by omega)
 have d2 := HN3.out.drew.cell (j := p * 7 + 2) (by omega)
 have d4 := HN3.out.drew.cell (j := p * 7 + 4) (by omega)
 have hi0 := HHA.out.1.1
 have hi1 := HHA.out.1.2.1
 have hi2 := HHA.out.1.2.2
 simp only at hi0 hi1 hi2
 rw [hi0] at d0
 rw [hi1] at d1
 rw [hi2] at d2
 rw [HV4.out] at d4
 clear HIH hi0 hi1 hi2
 go_region_with (first
   | (go_at_call 62; refine HC.out.mono ?_; rintro e w5 ⟨rfl, hb5, a5, vf5, hA5, hg5, ho5, hz5⟩; have HB5 := Lib.hid (HBd.out.trans hb5); have HA5 := Lib.hid hA5; have HG5 := Lib.hid hg5; have HO5 := Lib.hid ho5; have HZ5 := Lib.hid hz5; obtain ⟨g5, eg5, hn5, _, _⟩ := hA5.nds (by omega); injection eg5 with eg5; injection eg5 with eg5; subst eg5; have HN5 := Lib.hid hn5; have s5 := hn5.cell (j := p * 7 + 4) (by omega); have f5 := hn5.frozen (p * 7 + 4); clear hb5 hA5 hg5 ho5 hz5 hn5))
 all_goals (
  obtain ⟨hhf, hnd', hgn, hz6, hsub⟩ := HPH.out a5 HG5.out HO5.out HZ5.out
  have HHF := Lib.hid hhf
  have HND := Lib.hid hnd'
  have HGN := Lib.hid hgn
  have HZ6 := Lib.hid hz6
  have HSB : Hid (∀ s, s ∈ places (.node p ⟨u1, u2, u3⟩ l (drop r ⟨u1, u2, u3⟩)) → s ∈ places (.node p ⟨y1, y2, y3⟩ l r)) := Lib.hid hsub
  have HG6 : Hid (But g w5 (w5.setCell ⟨g, p * 7 + 4, none⟩ (.int .i64 (plc (drop r ⟨u1, u2, u3⟩))))) := Lib.hid (But.set g (p * 7 + 4) w5 _)
  have HN6 : Hid (Nds (w5.setCell ⟨g, p * 7 + 4, none⟩ (.int .i64 (plc (drop r ⟨u1, u2, u3⟩)))) g nn (upd a5 (p * 7 + 4) (plc (drop r ⟨u1, u2, u3⟩)))) := Lib.hid (HN5.out.set _ _)
  have HA6 := Lib.hid (HA5.out.but HG6.out HN6.out)
  have HB6 := Lib.hid (HB5.out.trans (HG6.out.below hbg (by have := HA5.out.qlt; have := HA5.out.hq; omega)))
  have HO6 : Hid (Off (fun s => s ∈ places (.node p ⟨y1, y2, y3⟩ l r)) a (upd a5 (p * 7 + 4) (plc (drop r ⟨u1, u2, u3⟩)))) := Lib.hid ((HRO.out.mono (fun s hs => by simp [places, hs])).trans ((HO5.out.mono (fun s hs => by simp [places, hs])).trans ((Off.upd a5 p 4 _ (by omega)).mono (fun s hs => by simp [places, hs]))))
  have HW6 : Hid (Within nn (.node p ⟨u1, u2, u3⟩ l (drop r ⟨u1, u2, u3⟩))) := Lib.hid (fun s hs => HW.out s (hsub s hs))
  clear s5 f5 HB5 HA5 HN5 HO5 HG6 HG5 HZ5 hhf hnd' hgn hz6 hsub HPH HC d0 d1 d2 d4 HA3 HB3 HAd HBd HN3
  generalize w5.setCell ⟨g, p * 7 + 4, none⟩ (.int .i64 (plc (drop r ⟨u1, u2, u3⟩))) = w6 at *
  generalize upd a5 (p * 7 + 4) (plc (drop r ⟨u1, u2, u3⟩)) = a6 at *
  have HEV := Lib.hid (even_is q g nn cn p a6 ⟨u1, u2, u3⟩ l (drop r ⟨u1, u2, u3⟩) w6 HA6.out.hd HN6.out hqg HHF.out HND.out HW6.out HBL.out.2 HBL.out.1)
  go_wp2_with fail
  refine (HEV.out).mono ?_
  rintro e w7 ⟨rfl, hb7, a7, hn7, hg7, ho7⟩
  have HF : Hid (Below base W w7 ∧ ∃ a' vf', Ar w7 base q (some ⟨g, 0, none⟩) nn cn a' vf' (fr ++ [((gone r ⟨u1, u2, u3⟩ : Nat) : Int)]) root ∧ Hang a' (even p ⟨u1, u2, u3⟩ l (drop r ⟨u1, u2, u3⟩)) (plc (even p ⟨u1, u2, u3⟩ l (drop r ⟨u1, u2, u3⟩))) ∧ Off (fun s => s ∈ places (.node p ⟨y1, y2, y3⟩ l r)) a a' ∧ ∀ k, k < 7 → a' (gone r ⟨u1, u2, u3⟩ * 7 + k) = 0) := Lib.hid ⟨HB6.out.trans (hb7.below hbg (by have := HA6.out.qlt; have := HA6.out.hq; omega)), a7, _, HA6.out.but hb7 hn7, hg7, HO6.out.trans (ho7.mono HSB.out), fun k hk => (ho7 _ HGN.out k hk).trans (HZ6.out k hk)⟩
  clear hb7 hn7 hg7 ho7 HEV
  go_wp2
  go_ret
  exact ⟨rfl, HF.out⟩)
theorem drop_is : ∀ (t : T) (W : World) (base q g nn cn : Nat) (a : Cells) (vf : Value) (fr : List Int) (root : Int) (x : Itm) (i : Int) (h : Ar W base q (some ⟨g, 0, none⟩) nn cn a vf fr root) (hl : fr.length ≤ 1000000) (hh : Hang a t i) (hnd : (places t).Nodup) (hw : Within nn t) (hrow : Row (items t)) (hm : x ∈ items t) (hb : bal t) (bh : hgt t ≤ 800), Drops W base q g nn cn root a t i x fr
 | .nil, W, base, q, g, nn, cn, a, vf, fr, root, x, i, h, hl, hh, hnd, hw, hrow, hm, hb, bh => by simp [items] at hm
 | .node p y l r, W, base, q, g, nn, cn, a, vf, fr, root, x, i, h, hl, hh, hnd, hw, hrow, hm, hb, bh => by
  have e : i = (p : Int) := hh.1
  subst e
  have ap := Apart.of hnd
  have hrow' : Row (items l ++ y :: items r) := hrow
  have hm' : x ∈ items l ++ y :: items r := hm
  obtain ⟨r1, r2, _, _⟩ := row_parts hrow'
  have b1 : hgt l ≤ 800 := by simp only [hgt] at bh; omega
  have b2 : hgt r ≤ 800 := by simp only [hgt] at bh; omega
  by_cases hlt : lt x y
  ·exact drop_l W base q g nn cn a vf fr root x p y l r h hl hh hnd hw hrow hm hb bh hlt (fun W' h' => drop_is l W' base q g nn cn a vf fr root x _ h' hl hh.2.2.1 ap.dl hw.l r1 (mem_low hrow' hlt hm') hb.1 b1)
  by_cases hgt_ : lt y x
  ·exact drop_r W base q g nn cn a vf fr root x p y l r h hl hh hnd hw hrow hm hb bh hgt_ (fun W' h' => drop_is r W' base q g nn cn a vf fr root x _ h' hl hh.2.2.2.1 ap.dr hw.r r2 (mem_up hrow' hgt_ hm') hb.2.1 b2)
  have hxy := lt_total hlt hgt_
  by_cases hl0 : l = .nil
  ·subst hl0
   exact drop_nl W base q g nn cn a vf fr root x p y r h hl hh hnd hw hrow hm hb bh hxy
  by_cases hr0 : r = .nil
  ·subst hr0
   exact drop_nr W base q g nn cn a vf fr root x p y l h hl hh hnd hw hrow hm hb bh hxy hl0
  exact drop_two W base q g nn cn a vf fr root x p y l r h hl hh hnd hw hrow hm hb bh hxy hl0 hr0 (fun W' a' h' hh' => drop_is r W' base q g nn cn a' vf fr root (first r) _ h' hl hh' ap.dr hw.r r2 (first_mem r hr0) hb.2.1 b2)
end Go.Proofs.Ytgkjpffbgnljeaa.Man
/- When a tree may be, plain: what hangs at a place as it should, no place twice. -/
set_option linter.unusedVariables false
set_option linter.unusedSimpArgs false
namespace Go.Proofs.Ytgkjpffbgnljeaa.Man
open Go.RowKit Go.Proofs.Ytgkjpffbgnljeaa.QT Go.Proofs.Ytgkjpffbgnljeaa.TreeM Go.Proofs.YtgkjpffbgnljeaaW.PrintWords Go.Proofs.YtgkjpffbgnljeaaW.PrintLast Go.Proofs.YtgkjpffbgnljeaaW.PrintMore
structure Good (a : Cells) (nn : Nat) (S : Nat → Bool) (i : Int) (t : T) : Prop where
 hang : Hang a t i
 within : Within nn t
 nodup : (places t).Nodup
 off : ∀ p ∈ places t, S p = false
 bal : bal t
 may : ∀ x ∈ items t, itmayF x = true
def plus (S : Nat → Bool) (p : Nat) : Nat → Bool := fun k => S k || decide (k = p)
def plusT (S : Nat → Bool) (t : T) : Nat → Bool := fun k => S k || decide (k ∈ places t)
theorem plusT_nil (S : Nat → Bool) : plusT S .nil = S := by funext k; simp [plusT, places]
theorem plusT_node (S : Nat → Bool) (p : Nat) (x : Itm) (l r : T) : plusT (plusT (plus S p) l) r = plusT S (.node p x l r) := by
 funext k
 unfold plusT plus
 simp only [places, List.mem_append, List.mem_cons, Bool.decide_or]
 cases S k <;> cases decide (k = p) <;> cases decide (k ∈ places l) <;> cases decide (k ∈ places r) <;> rfl
theorem plus_off {S : Nat → Bool} {p k : Nat} : plus S p k = false ↔ S k = false ∧ k ≠ p := by unfold plus; simp
theorem plusT_off {S : Nat → Bool} {t : T} {k : Nat} : plusT S t k = false ↔ S k = false ∧ k ∉ places t := by unfold plusT; simp
theorem good_nil (a : Cells) (nn : Nat) (S : Nat → Bool) : Good a nn S (-1) .nil := ⟨rfl, fun _ h => by simp [places] at h, by simp [places], fun _ h => by simp [places] at h, trivial, fun _ h => by simp [items] at h⟩
theorem Good.one {a : Cells} {nn : Nat} {S S' : Nat → Bool} {i : Int} {t s : T} (h : Good a nn S i t) (g : Good a nn S' i s) : t = s := Hang.one h.hang g.hang
theorem hgt_places : ∀ t : T, hgt t ≤ (places t).length
 | .nil => Nat.le_refl _
 | .node p x l r => by
  have := hgt_places l
  have := hgt_places r
  simp only [hgt, places, List.length_append, List.length_cons]
  omega
theorem sub_length : ∀ (l m : List Nat), l.Nodup → (∀ x ∈ l, x ∈ m) → l.length ≤ m.length
 | [], m, _, _ => Nat.zero_le _
 | a :: l, m, hn, h => by
  obtain ⟨h1, h2⟩ := List.nodup_cons.1 hn
  have ha : a ∈ m := h a List.mem_cons_self
  have := sub_length l (m.erase a) h2 (fun x hx => (List.mem_erase_of_ne (fun (e : x = a) => h1 (e ▸ hx))).2 (h x (List.mem_cons_of_mem _ hx)))
  have hl := List.length_erase_of_mem ha
  have hp : 0 < m.length := List.length_pos_of_mem ha
  simp only [List.length_cons]
  omega
theorem places_le {nn : Nat} {t : T} (hw : Within nn t) (hn : (places t).Nodup) : (places t).length ≤ nn := by
 have := sub_length (places t) (List.range nn) hn (fun p hp => List.mem_range.2 (hw p hp))
 rwa [List.length_range] at this
theorem Good.low {a : Cells} {nn : Nat} {S : Nat → Bool} {i : Int} {t : T} (h : Good a nn S i t) : hgt t ≤ nn := Nat.le_trans (hgt_places t) (places_le h.within h.nodup)
theorem good_node {a : Cells} {nn : Nat} {S : Nat → Bool} {p : Nat} {y : Itm} {l r : T} (hp : p < nn) (hS : S p = false) (hy : ItAt a p y) (hl : Good a nn (plus S p) (a (p * 7 + 3)) l) (hr : Good a nn (plusT (plus S p) l) (a (p * 7 + 4)) r)
  (h1 : itmayF y = true) (h5 : a (p * 7 + 5) = 1 + max (hgt l : Int) (hgt r)) (h6 : a (p * 7 + 6) = max y.to_ (max (most l) (most r))) (hb1 : (-1 : Int) ≤ (hgt l : Int) - hgt r) (hb2 : (hgt l : Int) - hgt r ≤ 1) : Good a nn S (p : Int) (.node p y l r) := by
 have nl : p ∉ places l := fun h => (plus_off.1 (hl.off p h)).2 rfl
 have nr : p ∉ places r := fun h => (plus_off.1 (plusT_off.1 (hr.off p h)).1).2 rfl
 have lr : ∀ q ∈ places l, q ∉ places r := fun q hq hr' => (plusT_off.1 (hr.off q hr')).2 hq
 refine ⟨⟨rfl, hy, hl.hang, hr.hang, by rw [h5]; simp only [hgt]; omega, by rw [h6]; rfl⟩, ?_, Apart.nodup ⟨nl, nr, hl.nodup, hr.nodup, lr⟩, ?_, ⟨hl.bal, hr.bal, by omega, by omega⟩, ?_⟩
 ·intro q hq
  simp only [places, List.mem_append, List.mem_cons] at hq
  rcases hq with hq | hq | hq
  ·exact hl.within q hq
  ·omega
  ·exact hr.within q hq
 ·intro q hq
  simp only [places, List.mem_append, List.mem_cons] at hq
  rcases hq with hq | hq | hq
  ·exact (plus_off.1 (hl.off q hq)).1
  ·rw [hq]; exact hS
  ·exact (plus_off.1 (plusT_off.1 (hr.off q hq)).1).1
 ·intro x hx
  simp only [items, List.mem_append, List.mem_cons] at hx
  rcases hx with hx | hx | hx
  ·exact hl.may x hx
  ·rw [hx]; exact h1
  ·exact hr.may x hx
theorem Good.parts {a : Cells} {nn : Nat} {S : Nat → Bool} {p : Nat} {t : T} (h : Good a nn S (p : Int) t) : ∃ y l r, t = .node p y l r ∧ p < nn ∧ S p = false ∧ Good a nn (plus S p) (a (p * 7 + 3)) l ∧ Good a nn (plusT (plus S p) l) (a (p * 7 + 4)) r := by
 match t, h with
 | .nil, h => have : (p : Int) = -1 := h.hang; omega
 | .node p' y l r, h =>
  obtain ⟨e, hy, hl, hr, h5, h6⟩ := h.hang
  have e' : p = p' := by omega
  subst e'
  have ap := Apart.of h.nodup
  have hw := h.within
  have ho := h.off
  refine ⟨y, l, r, rfl, hw.p, ho p (by simp [places]), ⟨hl, hw.l, ap.dl, fun q hq => plus_off.2 ⟨ho q (by simp [places, hq]), fun e => ap.nl (e ▸ hq)⟩, h.bal.1, fun x hx => h.may x (by simp [items, hx])⟩, ⟨hr, hw.r, ap.dr, fun q hq => plusT_off.2 ⟨plus_off.2 ⟨ho q (by simp [places, hq]), fun e => ap.nr (e ▸ hq)⟩, fun hq' => ap.lr q hq' hq⟩, h.bal.2.1, fun x hx => h.may x (by simp [items, hx])⟩⟩
theorem Good.range {a : Cells} {nn : Nat} {S : Nat → Bool} {i : Int} {t : T} (h : Good a nn S i t) : i = -1 ∨ ∃ p : Nat, i = (p : Int) ∧ p < nn ∧ S p = false := by
 match t, h with
 | .nil, h => exact .inl h.hang
 | .node p y l r, h =>
  have e : i = (p : Int) := h.hang.1
  subst e
  obtain ⟨_, _, _, _, h1, h2, _⟩ := h.parts
  exact .inr ⟨p, rfl, h1, h2⟩
def unseen (nn : Nat) (S : Nat → Bool) : Nat := (List.range nn).countP (fun k => !S k)
theorem countP_le {S S' : Nat → Bool} (h : ∀ k, S k = true → S' k = true) : ∀ l : List Nat, l.countP (fun k => !S' k) ≤ l.countP (fun k => !S k)
 | [] => Nat.le_refl _
 | k :: l => by
  have := countP_le h l
  rw [List.countP_cons, List.countP_cons]
  have := h k
  cases h1 : S k <;> cases h2 : S' k <;> simp_all <;> omega
theorem countP_lt {S S' : Nat → Bool} (h : ∀ k, S k = true → S' k = true) {p : Nat} (h1 : S p = false) (h2 : S' p = true) : ∀ l : List Nat, p ∈ l → l.countP (fun k => !S' k) < l.countP (fun k => !S k)
 | [], hm => by simp at hm
 | k :: l, hm => by
  rw [List.countP_cons, List.countP_cons]
  have hle := countP_le h l
  by_cases e : p = k
  ·subst e
   simp [h1, h2]
   omega
  ·have hm' : p ∈ l := by rcases List.mem_cons.1 hm with rfl | hm; exact absurd rfl e; exact hm
   have := countP_lt h h1 h2 l hm'
   have := h k
   cases g1 : S k <;> cases g2 : S' k <;> simp_all <;> omega
theorem unseen_le {nn : Nat} {S S' : Nat → Bool} (h : ∀ k, S k = true → S' k = true) : unseen nn S' ≤ unseen nn S := countP_le h _
theorem unseen_plus {nn : Nat} {S : Nat → Bool} {p : Nat} (hp : p < nn) (hS : S p = false) : unseen nn (plus S p) < unseen nn S := countP_lt (fun k h => by unfold plus; rw [h]; rfl) hS (by unfold plus; simp) _ (List.mem_range.2 hp)
end Go.Proofs.Ytgkjpffbgnljeaa.Man
/- look.visit: what hangs at a place is looked at, and each place seen is told. -/
set_option linter.unusedVariables false
set_option linter.unusedSimpArgs false
namespace Go.Proofs.Ytgkjpffbgnljeaa.Man
open Go.RowKit Go.Proofs.Ytgkjpffbgnljeaa.QT Go.Proofs.Ytgkjpffbgnljeaa.TreeM Go.Proofs.YtgkjpffbgnljeaaW.PrintWords Go.Proofs.YtgkjpffbgnljeaaW.PrintLast Go.Proofs.YtgkjpffbgnljeaaW.PrintMore
structure Buts (P : Nat → Prop) (W W' : World) : Prop where
 os : W'.os = W.os
 tape : W'.tape = W.tape
 output : W'.output = W.output
 size : W.heap.size ≤ W'.heap.size
 block : ∀ k, k < W.heap.size → ¬ P k → W'.heap[k]? = W.heap[k]?
theorem Buts.refl (P : Nat → Prop) (W : World) : Buts P W W := ⟨rfl, rfl, rfl, Nat.le_refl _, fun _ _ _ => rfl⟩
theorem Buts.trans {P : Nat → Prop} {a b c : World} (h : Buts P a b) (k : Buts P b c) : Buts P a c :=
 ⟨k.os.trans h.os, k.tape.trans h.tape, k.output.trans h.output, Nat.le_trans h.size k.size, fun i hi hg => (k.block i (Nat.lt_of_lt_of_le hi h.size) hg).trans (h.block i hi hg)⟩
theorem Buts.of {P : Nat → Prop} {W W' : World} (h : Below W.heap.size W W') : Buts P W W' := ⟨h.os, h.tape, h.output, h.size, fun k hk _ => h.block k hk⟩
theorem Buts.set {P : Nat → Prop} {g : Nat} (hg : P g) (j : Nat) (W : World) (v : Value) : Buts P W (W.setCell ⟨g, j, none⟩ v) := by
 have hb := (Below.refl 0 W).setCell (p := ⟨g, j, none⟩) (Nat.zero_le _) v
 exact ⟨hb.os, hb.tape, hb.output, hb.size, fun k _ hk => Below.heap_setCell W ⟨g, j, none⟩ _ k (fun e => hk (e ▸ hg))⟩
theorem Buts.kept {P : Nat → Prop} {W W' : World} (h : Buts P W W') : Kept W W' P := ⟨h.size, h.block⟩
theorem Buts.below {P : Nat → Prop} {W W' : World} {base : Nat} (h : Buts P W W') (hP : ∀ k, P k → base ≤ k) (hB : base ≤ W.heap.size) : Below base W W' := ⟨h.os, h.tape, h.output, h.size, fun k hk => h.block k (by omega) (fun e => by have := hP k e; omega)⟩
theorem Buts.mono {P Q : Nat → Prop} {W W' : World} (h : Buts P W W') (hP : ∀ k, P k → Q k) : Buts Q W W' := ⟨h.os, h.tape, h.output, h.size, fun k hk hn => h.block k hk (fun e => hn (hP k e))⟩
abbrev Sn (q sg : Nat) : Nat → Prop := fun k => k = q ∨ k = sg
structure Lk (W : World) (q sg : Nat) (A : Option Addr) (nn cn : Nat) (root : Int) (vf : Value) (cs : Nat) (ok : Bool) (S : Nat → Bool) : Prop where
 blk : W.heap[q]? = some (.cells #[.slice A nn cn, .int .i64 root, vf, .slice (some ⟨sg, 0, none⟩) nn cs, .bool ok] 99 (0, 0))
 seen : ∃ cur : Array Value, W.heap[sg]? = some (.cells cur 3 (0, 0)) ∧ ∀ j, j < nn → cur[j]? = some (.int .i64 (if S j = true then 1 else 0))
section
variable {W W' : World} {q sg nn cn cs : Nat} {A : Option Addr} {root : Int} {vf : Value} {ok : Bool} {S : Nat → Bool}
theorem Lk.ne (h : Lk W q sg A nn cn root vf cs ok S) : q ≠ sg := by
 obtain ⟨cur, hs, _⟩ := h.seen
 exact blk_ne h.blk hs (by decide)
theorem Lk.hd (h : Lk W q sg A nn cn root vf cs ok S) : Hd W q (.slice A nn cn) := ⟨_, _, h.blk, rfl⟩
theorem Lk.below (h : Lk W q sg A nn cn root vf cs ok S) (hb : Below W.heap.size W W') : Lk W' q sg A nn cn root vf cs ok S := by
 obtain ⟨cur, hs, hc⟩ := h.seen
 exact ⟨blk_below h.blk hb, cur, blk_below hs hb, hc⟩
theorem Lk.cell (h : Lk W q sg A nn cn root vf cs ok S) {p : Nat} (hp : p < nn) : W.cell? ⟨sg, p, none⟩ = some (.int .i64 (if S p = true then 1 else 0)) := by
 obtain ⟨cur, hs, hc⟩ := h.seen
 rw [blk_cell hs p, hc p hp]
theorem Lk.frozen (h : Lk W q sg A nn cn root vf cs ok S) (p : Nat) : W.frozen? ⟨sg, p, none⟩ = false := by
 obtain ⟨cur, hs, hc⟩ := h.seen
 exact blk_frozen hs p
theorem Lk.see (h : Lk W q sg A nn cn root vf cs ok S) (p : Nat) : Lk (W.setCell ⟨sg, p, none⟩ (.int .i64 1)) q sg A nn cn root vf cs ok (plus S p) := by
 obtain ⟨cur, hs, hc⟩ := h.seen
 refine ⟨blk_far h.blk h.ne _, _, blk_set hs p _, fun j hj => ?_⟩
 have hsz : j < cur.size := (Array.getElem?_eq_some_iff.1 (hc j hj)).1
 by_cases e : j = p
 ·subst e; simp [hsz, plus]
 ·rw [Array.getElem?_setIfInBounds_ne (by omega), hc j hj]
  unfold plus
  simp [e]
theorem Lk.tell (h : Lk W q sg A nn cn root vf cs ok S) (b : Bool) : Lk (W.setCell ⟨q, 4, none⟩ (.bool b)) q sg A nn cn root vf cs b S := by
 obtain ⟨cur, hs, hc⟩ := h.seen
 exact ⟨blk_set h.blk 4 _, cur, blk_far hs h.ne.symm _, hc⟩
end
def Visits (W : World) (q sg : Nat) (A : Option Addr) (nn cn : Nat) (root : Int) (vf : Value) (cs : Nat) (a : Cells) (S : Nat → Bool) (i : Int) : Prop :=
 Calls Try.prog 52 #[.pointer (some ⟨q, 0, none⟩), .int .i64 i] W fun e W' => e = .returned (.tuple #[]) ∧ Buts (Sn q sg) W W' ∧ ((∃ t, Good a nn S i t ∧ Lk W' q sg A nn cn root vf cs true (plusT S t)) ∨ ((∀ t, ¬ Good a nn S i t) ∧ ∃ S', Lk W' q sg A nn cn root vf cs false S' ∧ ∀ k, S k = true → S' k = true))
set_option maxHeartbeats 2000000 in
set_option maxRecDepth 100000 in
theorem visit_off (W : World) (q sg : Nat) (A : Option Addr) (nn cn : Nat) (root : Int) (vf : Value) (cs : Nat) (S : Nat → Bool) (i : Int) (h : Lk W q sg A nn cn root vf cs false S) :
  Calls Try.prog 52 #[.pointer (some ⟨q, 0, none⟩), .int .i64 i] W fun e W' => e = .returned (.tuple #[]) ∧ W' = W := by
 have c4 := blk_cell h.blk 4
 simp at c4
 clear h
 by_cases hi : i = -1
 ·have hd : (i == -1) = true := by simpa using hi
  clear hi
  go_enter Try.func52, Try.ntmps52
  go_wp2_with fail
  ((try simp only [Exit.inBlock, Exit.then]); refine bodyPost_ret (results_none rfl _ _ _) rfl ?_)
  exact ⟨rfl, rfl⟩
 ·have hd : (i == -1) = false := by simpa using hi
  clear hi
  go_enter Try.func52, Try.ntmps52
  go_wp2_with fail
  ((try simp only [Exit.inBlock, Exit.then]); refine bodyPost_ret (results_none rfl _ _ _) rfl ?_)
  exact ⟨rfl, rfl⟩
set_option maxHeartbeats 2000000 in
set_option maxRecDepth 100000 in
theorem visit_none (W : World) (q sg : Nat) (A : Option Addr) (nn cn : Nat) (root : Int) (vf : Value) (cs : Nat) (a : Cells) (S : Nat → Bool) (h : Lk W q sg A nn cn root vf cs true S) : Visits W q sg A nn cn root vf cs a S (-1) := by
 have HL := Lib.hid h
 clear h
 unfold Visits
 go_enter Try.func52, Try.ntmps52
 go_wp2_with fail
 ((try simp only [Exit.inBlock, Exit.then]); refine bodyPost_ret (results_none rfl _ _ _) rfl ?_)
 exact ⟨rfl, Buts.refl _ _, .inl ⟨.nil, good_nil _ _ _, by rw [plusT_nil]; exact HL.out⟩⟩
theorem visit_bad (W : World) (q sg : Nat) (A : Option Addr) (nn cn : Nat) (root : Int) (vf : Value) (cs : Nat) (a : Cells) (S : Nat → Bool) (i : Int) (h : Lk W q sg A nn cn root vf cs true S) (hi : i ≠ -1) (hb : ∀ p : Nat, i = (p : Int) → p < nn → S p = true) : Visits W q sg A nn cn root vf cs a S i := by
 have HN : Hid (∀ t, ¬ Good a nn S i t) := Lib.hid (fun t g => by
  rcases g.range with e | ⟨p, e, h1, h2⟩
  ·exact hi e
  ·rw [hb p e h1] at h2; cases h2)
 have HL := Lib.hid h
 have hd : (i == -1) = false := by simpa using hi
 have c0 := blk_cell h.blk 0
 have c3 := blk_cell h.blk 3
 have c4 := blk_cell h.blk 4
 simp at c0 c3 c4
 have f4 := blk_frozen h.blk 4
 unfold Visits
 by_cases h0 : i < 0
 ·have hd0 : decide (i < 0) = true := by simpa using h0
  clear h hi hb h0
  go_enter Try.func52, Try.ntmps52
  go_wp2_with fail
  ((try simp only [Exit.inBlock, Exit.then]); refine bodyPost_ret (results_none rfl _ _ _) rfl ?_)
  exact ⟨rfl, Buts.set (.inl rfl) _ _ _, .inr ⟨HN.out, S, HL.out.tell false, fun _ h => h⟩⟩
 ·obtain ⟨p, rfl⟩ : ∃ p : Nat, i = (p : Int) := ⟨i.toNat, by omega⟩
  have hd0 : decide ((p : Int) < 0) = false := by simp
  by_cases h1 : p < nn
  ·have hd1 : decide ((p : Int) ≥ (nn : Int)) = false := by simp; omega
   have cp := h.cell h1
   rw [if_pos (hb p rfl h1)] at cp
   have g0 : (0 : Int) ≤ (p : Int) := by omega
   have g1 : (p : Int) < (nn : Int) := by omega
   clear h hi hb h0 h1
   go_enter Try.func52, Try.ntmps52
   go_wp2_with fail
   ((try simp only [Exit.inBlock, Exit.then]); refine bodyPost_ret (results_none rfl _ _ _) rfl ?_)
   exact ⟨rfl, Buts.set (.inl rfl) _ _ _, .inr ⟨HN.out, S, HL.out.tell false, fun _ h => h⟩⟩
  ·have hd1 : nn ≤ p := by omega
   clear h hi hb h0 h1
   go_enter Try.func52, Try.ntmps52
   go_wp2_with fail
   ((try simp only [Exit.inBlock, Exit.then]); refine bodyPost_ret (results_none rfl _ _ _) rfl ?_)
   exact ⟨rfl, Buts.set (.inl rfl) _ _ _, .inr ⟨HN.out, S, HL.out.tell false, fun _ h => h⟩⟩
set_option maxHeartbeats 8000000 in
set_option maxRecDepth 100000 in
theorem visit_node (W0 W : World) (q sg : Nat) (A : Option Addr) (nn cn : Nat) (root : Int) (vf : Value) (cs : Nat) (a : Cells) (S : Nat → Bool) (p : Nat) (h : Lk W q sg A nn cn root vf cs true S) (hW : Buts (Sn q sg) W0 W) (hR : ∀ W', Buts (Sn q sg) W0 W' → Rd W' A nn a) (hp : p < nn) (hS : S p = false) (hnn : nn ≤ 1000)
  (ih : ∀ W' S' i', Buts (Sn q sg) W0 W' → Lk W' q sg A nn cn root vf cs true S' → unseen nn S' < unseen nn S → Visits W' q sg A nn cn root vf cs a S' i') : Visits W q sg A nn cn root vf cs a S (p : Int) := by
 have hd : ((p : Int) == -1) = false := by simp
 have hd0 : decide ((p : Int) < 0) = false := by simp
 have hd1 : decide ((p : Int) ≥ (nn : Int)) = false := by simp; omega
 have c0 := blk_cell h.blk 0
 have c3 := blk_cell h.blk 3
 have c4 := blk_cell h.blk 4
 simp at c0 c3 c4
 have cp := h.cell hp
 rw [if_neg (by rw [hS]; decide)] at cp
 have fp := h.frozen p
 have g0 : (0 : Int) ≤ (p : Int) := by omega
 have g1 : (p : Int) < (nn : Int) := by omega
 have HL1 := Lib.hid (h.see p)
 have HW1 : Hid (Buts (Sn q sg) W (W.setCell ⟨sg, p, none⟩ (.int .i64 1))) := Lib.hid (Buts.set (.inr rfl) p W _)
 have HWW : Hid (Buts (Sn q sg) W0 (W.setCell ⟨sg, p, none⟩ (.int .i64 1))) := Lib.hid (hW.trans HW1.out)
 have HR := Lib.hid hR
 have HIH : Hid (∀ W' S' i', Buts (Sn q sg) W0 W' → Lk W' q sg A nn cn root vf cs true S' → (∀ k, plus S p k = true → S' k = true) → Visits W' q sg A nn cn root vf cs a S' i') := Lib.hid fun W' S' i' g1 g2 g3 => ih W' S' i' g1 g2 (Nat.lt_of_le_of_lt (unseen_le g3) (unseen_plus hp hS))
 have HSP : Hid (∀ k, S k = true → plus S p k = true) := Lib.hid (fun k hk => by unfold plus; rw [hk]; rfl)
 have HSF := Lib.hid hS
 have HPN := Lib.hid hp
 clear h hW hR ih hS
 unfold Visits
 go_enter Try.func52, Try.ntmps52
 go_upto_region 4 with fail
 have HC0 := HL1.out.hd.cell
 clear c0 c3 c4 cp fp
 generalize (W.setCell ⟨sg, p, none⟩ (.int .i64 1)) = w1 at *
 obtain ⟨ad, eA, m0, mk⟩ := (HR.out w1 HWW.out).at hp
 have m1 := mk 1 (by omega) (by omega)
 have m2 := mk 2 (by omega) (by omega)
 have m3 := mk 3 (by omega) (by omega)
 have m4 := mk 4 (by omega) (by omega)
 have m5 := mk 5 (by omega) (by omega)
 have m6 := mk 6 (by omega) (by omega)
 obtain ⟨k0, e0⟩ : ∃ k0, a (p * 7) = k0 := ⟨_, rfl⟩
 obtain ⟨k1, e1⟩ : ∃ k1, a (p * 7 + 1) = k1 := ⟨_, rfl⟩
 obtain ⟨k2, e2⟩ : ∃ k2, a (p * 7 + 2) = k2 := ⟨_, rfl⟩
 obtain ⟨k3, e3⟩ : ∃ k3, a (p * 7 + 3) = k3 := ⟨_, rfl⟩
 obtain ⟨k4, e4⟩ : ∃ k4, a (p * 7 + 4) = k4 := ⟨_, rfl⟩
 obtain ⟨k5, e5⟩ : ∃ k5, a (p * 7 + 5) = k5 := ⟨_, rfl⟩
 obtain ⟨k6, e6⟩ : ∃ k6, a (p * 7 + 6) = k6 := ⟨_, rfl⟩
 rw [e0] at m0
 rw [e1] at m1
 rw [e2] at m2
 rw [e3] at m3
 rw [e4] at m4
 rw [e5] at m5
 rw [e6] at m6
 have HE : Hid (a (p * 7) = k0 ∧ a (p * 7 + 1) = k1 ∧ a (p * 7 + 2) = k2 ∧ a (p * 7 + 3) = k3 ∧ a (p * 7 + 4) = k4 ∧ a (p * 7 + 5) = k5 ∧ a (p * 7 + 6) = k6) := Lib.hid ⟨e0, e1, e2, e3, e4, e5, e6⟩
 have HEA := Lib.hid eA
 rw [eA] at HC0
 clear mk e0 e1 e2 e3 e4 e5 e6 eA hp
 go_wp2_with fail
 have HX2 := Lib.hid (blk_new w1 (.cells #[.int .i64 k0, .int .i64 k1, .int .i64 k2, .int .i64 k3, .int .i64 k4, .int .i64 k5, .int .i64 k6] 64 (0, 0)))
 have HB2 : Hid (Below w1.heap.size w1 (w1.alloc (.cells #[.int .i64 k0, .int .i64 k1, .int .i64 k2, .int .i64 k3, .int .i64 k4, .int .i64 k5, .int .i64 k6] 64))) := Lib.hid ((Below.refl _ _).alloc (Nat.le_refl _) _)
 have HL2 := Lib.hid (HL1.out.below HB2.out)
 have HW2 := Lib.hid (HWW.out.trans (Buts.of HB2.out))
 have HWB2 := Lib.hid (HW1.out.trans (Buts.of HB2.out))
 have HTQ : Hid (¬ Sn q sg w1.heap.size) := Lib.hid (by
  obtain ⟨cur, hs, _⟩ := HL1.out.seen
  have := blk_lt HL1.out.blk
  have := blk_lt hs
  rintro (e | e) <;> omega)
 clear m0 m1 m2 m3 m4 m5 m6 HC0 HL1 HW1 HWW HB2
 generalize w1.alloc (.cells #[.int .i64 k0, .int .i64 k1, .int .i64 k2, .int .i64 k3, .int .i64 k4, .int .i64 k5, .int .i64 k6] 64) = w2 at *
 generalize w1.heap.size = tb at *
 refine (HIH.out w2 (plus S p) k3 HW2.out HL2.out (fun _ h => h)).mono ?_
 rintro e w3 ⟨rfl, hb3, hcase⟩
 have HX3 := Lib.hid (blk_kept HX2.out hb3.kept HTQ.out)
 have HW3 := Lib.hid (HW2.out.trans hb3)
 have HWB3 := Lib.hid (HWB2.out.trans hb3)
 clear hb3 HX2 HW2 HWB2 HL2
 have x3 := blk_cell HX3.out 4
 simp at x3
 rcases hcase with ⟨l, hgl, hl3⟩ | ⟨hno, S', hl3, hs3⟩
 case inr =>
  have HL3 := Lib.hid hl3
  have HS3 := Lib.hid hs3
  have HNO : Hid (∀ t, ¬ Good a nn S (p : Int) t) := Lib.hid (fun t g => by
   obtain ⟨_, l, _, _, _, _, gl, _⟩ := g.parts
   rw [HE.out.2.2.2.1] at gl
   exact hno l gl)
  clear hno hl3 hs3 HIH
  go_wp2_with fail
  refine (visit_off w3 q sg A nn cn root vf cs S' k4 HL3.out).mono ?_
  rintro e w4 ⟨rfl, rfl⟩
  have c4 := blk_cell HL3.out.blk 4
  simp at c4
  go_wp2_with fail
  ((try simp only [Exit.inBlock, Exit.then]); refine bodyPost_ret (results_none rfl _ _ _) rfl ?_)
  exact ⟨rfl, HWB3.out, .inr ⟨HNO.out, S', HL3.out, fun k hk => HS3.out k (HSP.out k hk)⟩⟩
 case inl =>
  have HGL := Lib.hid hgl
  have HL3 := Lib.hid hl3
  have HSL : Hid (∀ k, plus S p k = true → plusT (plus S p) l k = true) := Lib.hid (fun k hk => by unfold plusT; rw [hk]; rfl)
  clear hgl hl3
  go_wp2_with fail
  refine (HIH.out w3 _ k4 HW3.out HL3.out HSL.out).mono ?_
  rintro e w4 ⟨rfl, hb4, hcase⟩
  have HX4 := Lib.hid (blk_kept HX3.out hb4.kept HTQ.out)
  have HW4 := Lib.hid (HW3.out.trans hb4)
  have HWB4 := Lib.hid (HWB3.out.trans hb4)
  clear hb4 HX3 HW3 HWB3 HL3 HIH x3
  rcases hcase with ⟨r, hgr, hl4⟩ | ⟨hno, S', hl4, hs4⟩
  case inr =>
   have HL4 := Lib.hid hl4
   have HS4 := Lib.hid hs4
   have HNO : Hid (∀ t, ¬ Good a nn S (p : Int) t) := Lib.hid (fun t g => by
    obtain ⟨_, l', r', _, _, _, gl, gr⟩ := g.parts
    rw [HE.out.2.2.2.1] at gl
    rw [HE.out.2.2.2.2.1] at gr
    have e : l' = l := gl.one HGL.out
    subst e
    exact hno r' gr)
   clear hno hl4 hs4
   have c4 := blk_cell HL4.out.blk 4
   simp at c4
   go_wp2_with fail
   ((try simp only [Exit.inBlock, Exit.then]); refine bodyPost_ret (results_none rfl _ _ _) rfl ?_)
   exact ⟨rfl, HWB4.out, .inr ⟨HNO.out, S', HL4.out, fun k hk => HS4.out k (HSL.out k (HSP.out k hk))⟩⟩
  case inl =>
   have HGR := Lib.hid hgr
   have HL4 := Lib.hid hl4
   clear hgr hl4
   have c4 := blk_cell HL4.out.blk 4
   simp at c4
   have HLL : Hid (hgt l ≤ 1000 ∧ hgt r ≤ 1000) := Lib.hid ⟨Nat.le_trans HGL.out.low hnn, Nat.le_trans HGR.out.low hnn⟩
   have HTO : Hid (Calls Try.prog 81 #[.pointer (some ⟨q, 0, none⟩), .int .i64 (p : Int)] w4 fun e W'' => e = .returned (.tuple #[.int .i64 (1 + max (hgt l : Int) (hgt r)), .int .i64 (max k1 (max (most l) (most r)))]) ∧ Below w4.heap.size w4 W'') := Lib.hid (by
    obtain ⟨_, a1, _, a3, a4, _, _⟩ := HE.out
    have hgl := HGL.out.hang
    have hgr := HGR.out.hang
    rw [← a3] at hgl
    rw [← a4] at hgr
    exact told_is q A nn cn p a w4 HL4.out.hd (HR.out w4 HW4.out) HPN.out (HGL.out.within.place hgl) (HGR.out.within.place hgr) _ _ (by rw [hgl.hi, hgr.hi]) (by have := HLL.out; omega) (by rw [hgl.mo, hgr.mo, a1]))
   have HH1 : Hid (∀ W', Buts (Sn q sg) w4 W' → Hd W' q (.slice A nn cn) → Calls Try.prog 82 #[.pointer (some ⟨q, 0, none⟩), .int .i64 k3] W' fun e W'' => e = .returned (.int .i64 (hgt l : Int)) ∧ Below W'.heap.size W' W'') := Lib.hid fun W' g1 g2 => (high_is q A nn cn a _ W' g2 (HR.out W' (HW4.out.trans g1)) (HGL.out.within.place HGL.out.hang)).mono fun _ _ ⟨h1, h2⟩ => ⟨by rw [h1, HGL.out.hang.hi], h2 ▸ Below.refl _ _⟩
   have HH2 : Hid (∀ W', Buts (Sn q sg) w4 W' → Hd W' q (.slice A nn cn) → Calls Try.prog 82 #[.pointer (some ⟨q, 0, none⟩), .int .i64 k4] W' fun e W'' => e = .returned (.int .i64 (hgt r : Int)) ∧ Below W'.heap.size W' W'') := Lib.hid fun W' g1 g2 => (high_is q A nn cn a _ W' g2 (HR.out W' (HW4.out.trans g1)) (HGR.out.within.place HGR.out.hang)).mono fun _ _ ⟨h1, h2⟩ => ⟨by rw [h1, HGR.out.hang.hi], h2 ▸ Below.refl _ _⟩
   have hwr : IntKind.i64.wrap ((hgt l : Int) - (hgt r : Int)) = (hgt l : Int) - (hgt r : Int) := IntWalk.i64_in _ (by have := HLL.out; omega)
   have HYES : Hid (itmayF ⟨k0, k1, k2⟩ = true → k5 = 1 + max (hgt l : Int) (hgt r) → k6 = max k1 (max (most l) (most r)) → (-1 : Int) ≤ (hgt l : Int) - hgt r → (hgt l : Int) - hgt r ≤ 1 → Good a nn S (p : Int) (.node p ⟨k0, k1, k2⟩ l r)) := Lib.hid (fun h1 h2 h3 h4 h5 => by
    obtain ⟨a0, a1, a2, a3, a4, a5, a6⟩ := HE.out
    have gl := HGL.out
    have gr := HGR.out
    rw [← a3] at gl
    rw [← a4] at gr
    exact good_node HPN.out HSF.out ⟨a0, a1, a2⟩ gl gr h1 (by rw [a5, h2]) (by rw [a6, h3]) h4 h5)
   have HNOT : Hid (¬ (itmayF ⟨k0, k1, k2⟩ = true ∧ k5 = 1 + max (hgt l : Int) (hgt r) ∧ k6 = max k1 (max (most l) (most r)) ∧ (-1 : Int) ≤ (hgt l : Int) - hgt r ∧ (hgt l : Int) - hgt r ≤ 1) → ∀ t, ¬ Good a nn S (p : Int) t) := Lib.hid (fun hn t g => by
    obtain ⟨y, l', r', et, _, _, gl, gr⟩ := g.parts
    obtain ⟨a0, a1, a2, a3, a4, a5, a6⟩ := HE.out
    rw [a3] at gl
    rw [a4] at gr
    have el : l' = l := gl.one HGL.out
    subst el
    have er : r' = r := gr.one HGR.out
    subst er
    subst et
    obtain ⟨y0, y1, y2⟩ := y
    obtain ⟨_, ⟨b0, b1, b2⟩, _, _, b5, b6⟩ := g.hang
    simp only at b0 b1 b2
    have hy : (⟨y0, y1, y2⟩ : Itm) = ⟨k0, k1, k2⟩ := by rw [← b0, ← b1, ← b2, a0, a1, a2]
    have hm := g.may ⟨y0, y1, y2⟩ (by simp [items])
    rw [hy] at hm
    have hbal := g.bal
    simp only [bal] at hbal
    refine hn ⟨hm, ?_, ?_, by omega, by omega⟩
    ·rw [← a5, b5]; simp only [hgt]; omega
    ·rw [← a6, b6, ← a1, b1]; rfl)
   have HSS : Hid (∀ k, S k = true → plusT (plusT (plus S p) l) r k = true) := Lib.hid (fun k hk => by unfold plusT plus; rw [hk]; rfl)
   have HPT : Hid (plusT (plusT (plus S p) l) r = plusT S (.node p ⟨k0, k1, k2⟩ l r)) := Lib.hid (plusT_node _ _ _ _ _)
   generalize (hgt l : Int) = hl at *
   generalize (hgt r : Int) = hr at *
   generalize (max k1 (max (most l) (most r))) = mm at *
   generalize (1 + max hl hr) = hh at *
   go_wp2_with fail
   refine HTO.out.mono ?_
   rintro e w5 ⟨rfl, hb5⟩
   have HX5 := Lib.hid (blk_below HX4.out hb5)
   have HB5 := Lib.hid hb5
   have HL5 := Lib.hid (HL4.out.below hb5)
   have HWB5 := Lib.hid (HWB4.out.trans (Buts.of hb5))
   clear hb5 HTO c4
   have y3 : ∀ x : Later w5, x.at.cell? ⟨tb, 3, none⟩ = some (.int .i64 k3) := fun x => Later.cell (by rw [blk_cell HX5.out 3]; rfl) x
   have y4 : ∀ x : Later w5, x.at.cell? ⟨tb, 4, none⟩ = some (.int .i64 k4) := fun x => Later.cell (by rw [blk_cell HX5.out 4]; rfl) x
   have HQ1 : Hid (∀ x : Later w5, Calls Try.prog 82 #[.pointer (some ⟨q, 0, none⟩), .int .i64 k3] x.at fun e W'' => e = .returned (.int .i64 hl) ∧ Below x.at.heap.size x.at W'') := Lib.hid fun x => HH1.out _ (Buts.of (below_then HB5.out HB5.out.size x.below)) (HL5.out.hd.below x.below)
   have HQ2 : Hid (∀ x : Later w5, Calls Try.prog 82 #[.pointer (some ⟨q, 0, none⟩), .int .i64 k4] x.at fun e W'' => e = .returned (.int .i64 hr) ∧ Below x.at.heap.size x.at W'') := Lib.hid fun x => HH2.out _ (Buts.of (below_then HB5.out HB5.out.size x.below)) (HL5.out.hd.below x.below)
   go_wp2_with fail
   refine wp_region_later (by kernel_rfl) (by kernel_rfl) ?_
   repeat (go_big_quiet_step (first
    | (go_at_call 82; first | with_reducible exact later_of (HQ1.out _) | with_reducible exact later_of (HQ2.out _))))
   refine wpQuiet_nil ?_
   rintro _ ⟨xl, rfl⟩
   have HX6 := Lib.hid (blk_below HX5.out xl.below)
   have HL6 := Lib.hid (HL5.out.below xl.below)
   have HWB6 := Lib.hid (HWB5.out.trans (Buts.of xl.below))
   clear y3 y4 HQ1 HQ2 HX5 HL5 HWB5 HB5 HX4 HL4 HWB4 HW4 HH1 HH2
   generalize xl.at = w6 at *
   clear xl
   have x0 := blk_cell HX6.out 0
   have x1 := blk_cell HX6.out 1
   have x2 := blk_cell HX6.out 2
   simp at x0 x1 x2
   go_wp2_with fail
   refine (itemMay_is k0 k1 k2 w6).mono ?_
   rintro e w7 ⟨rfl, hb7⟩
   have hx7 := blk_below HX6.out hb7
   have x5 := blk_cell hx7 5
   have x6 := blk_cell hx7 6
   simp at x5 x6
   have HL7 := Lib.hid (HL6.out.below hb7)
   have HWB7 := Lib.hid (HWB6.out.trans (Buts.of hb7))
   clear hb7 hx7 HX6 HL6 HWB6 x0 x1 x2
   have f4 := blk_frozen HL7.out.blk 4
   have q4 := blk_cell HL7.out.blk 4
   simp at q4
   cases v0 : itmayF ⟨k0, k1, k2⟩
   case false =>
    have HV := Lib.hid (HNOT.out (by intro hn; have := hn.1; rw [v0] at this; cases this))
    clear HYES HNOT v0
    go_wp2_with fail
    go_end0
    exact ⟨rfl, HWB7.out.trans (Buts.set (.inl rfl) _ _ _), .inr ⟨HV.out, _, HL7.out.tell false, HSS.out⟩⟩
   cases v1 : (k5 == hh)
   case false =>
    have HV := Lib.hid (HNOT.out (by intro hn; have := hn.2.1; simp [this] at v1))
    clear HYES HNOT v0
    go_wp2_with fail
    go_end0
    exact ⟨rfl, HWB7.out.trans (Buts.set (.inl rfl) _ _ _), .inr ⟨HV.out, _, HL7.out.tell false, HSS.out⟩⟩
   cases v2 : (k6 == mm)
   case false =>
    have HV := Lib.hid (HNOT.out (by intro hn; have := hn.2.2.1; simp [this] at v2))
    clear HYES HNOT v0
    go_wp2_with fail
    go_end0
    exact ⟨rfl, HWB7.out.trans (Buts.set (.inl rfl) _ _ _), .inr ⟨HV.out, _, HL7.out.tell false, HSS.out⟩⟩
   cases v3 : decide (hl - hr ≥ -1)
   case false =>
    have HV := Lib.hid (HNOT.out (by intro hn; have := hn.2.2.2.1; rw [decide_eq_false_iff_not] at v3; omega))
    clear HYES HNOT v0
    go_wp2_with fail
    go_end0
    exact ⟨rfl, HWB7.out.trans (Buts.set (.inl rfl) _ _ _), .inr ⟨HV.out, _, HL7.out.tell false, HSS.out⟩⟩
   cases v4 : decide (hl - hr ≤ 1)
   case false =>
    have HV := Lib.hid (HNOT.out (by intro hn; have := hn.2.2.2.2; rw [decide_eq_false_iff_not] at v4; omega))
    clear HYES HNOT v0
    go_wp2_with fail
    go_end0
    exact ⟨rfl, HWB7.out.trans (Buts.set (.inl rfl) _ _ _), .inr ⟨HV.out, _, HL7.out.tell false, HSS.out⟩⟩
   have HV := Lib.hid (HYES.out v0 (by simpa using v1) (by simpa using v2) (by have := of_decide_eq_true v3; omega) (by have := of_decide_eq_true v4; omega))
   clear HYES HNOT v0
   go_wp2_with fail
   go_end0
   exact ⟨rfl, HWB7.out.trans (Buts.set (.inl rfl) _ _ _), .inl ⟨_, HV.out, by rw [← HPT.out]; exact HL7.out.tell true⟩⟩
theorem visit_is (W0 : World) (q sg : Nat) (A : Option Addr) (nn cn : Nat) (root : Int) (vf : Value) (cs : Nat) (a : Cells) (hR : ∀ W', Buts (Sn q sg) W0 W' → Rd W' A nn a) (hnn : nn ≤ 1000) : ∀ (n : Nat) (W : World) (S : Nat → Bool) (i : Int), unseen nn S ≤ n → Buts (Sn q sg) W0 W → Lk W q sg A nn cn root vf cs true S → Visits W q sg A nn cn root vf cs a S i := by
 intro n
 induction n using Nat.strongRecOn with
 | _ n ih =>
  intro W S i hn hW h
  by_cases hi : i = -1
  ·subst hi
   exact visit_none W q sg A nn cn root vf cs a S h
  ·by_cases hb : ∃ p : Nat, i = (p : Int) ∧ p < nn ∧ S p = false
   case neg => exact visit_bad W q sg A nn cn root vf cs a S i h hi (fun p e hp => by cases hS : S p with | true => rfl | false => exact absurd ⟨p, e, hp, hS⟩ hb)
   case pos =>
    obtain ⟨p, e, hp, hS⟩ := hb
    subst e
    exact visit_node W0 W q sg A nn cn root vf cs a S p h hW hR hp hS hnn (fun W' S' i' g1 g2 g3 => ih (unseen nn S') (by omega) W' S' i' (Nat.le_refl _) g1 g2)
end Go.Proofs.Ytgkjpffbgnljeaa.Man
/- look.free: the places that are free are looked at. -/
set_option linter.unusedVariables false
set_option linter.unusedSimpArgs false
namespace Go.Proofs.Ytgkjpffbgnljeaa.Man
open Go.RowKit Go.Proofs.Ytgkjpffbgnljeaa.QT Go.Proofs.Ytgkjpffbgnljeaa.TreeM Go.Proofs.YtgkjpffbgnljeaaW.PrintWords Go.Proofs.YtgkjpffbgnljeaaW.PrintLast Go.Proofs.YtgkjpffbgnljeaaW.PrintMore
attribute [local go_sem high] Go.Proofs.Ytgkjpffbgnljeaa.QA.eqA64
def freeOk (a : Cells) (nn : Nat) (S : Nat → Bool) (k : Int) : Bool := decide (0 ≤ k) && decide (k < (nn : Int)) && !S k.toNat && (List.range 7).all (fun j => decide (a (k.toNat * 7 + j) = 0))
theorem freeOk_iff {a : Cells} {nn : Nat} {S : Nat → Bool} {k : Int} : freeOk a nn S k = true ↔ 0 ≤ k ∧ k < (nn : Int) ∧ S k.toNat = false ∧ ∀ j, j < 7 → a (k.toNat * 7 + j) = 0 := by
 unfold freeOk
 simp only [Bool.and_eq_true, decide_eq_true_eq, Bool.not_eq_true', List.all_eq_true, List.mem_range, and_assoc]
def freeF (a : Cells) (nn : Nat) : (Nat → Bool) → List Int → Option (Nat → Bool)
 | S, [] => some S
 | S, k :: ks => if freeOk a nn S k = true then freeF a nn (plus S k.toNat) ks else none
def FreeAt (W : World) (q sg : Nat) (A : Option Addr) (nn cn : Nat) (root : Int) (F : Option Addr) (cf : Nat) (fr : List Int) (cs : Nat) (b : Bool) (a : Cells) (S : Nat → Bool) (i : Value) (wr : World) : Prop :=
 ∃ (k : Nat) (S1 : Nat → Bool), i = .int .i64 (k : Int) ∧ k ≤ fr.length ∧ freeF a nn S fr = freeF a nn S1 (fr.drop k) ∧ Lk wr q sg A nn cn root (.slice F fr.length cf) cs b S1 ∧ Buts (Sn q sg) W wr
set_option maxHeartbeats 8000000 in
set_option maxRecDepth 100000 in
theorem free_is (W0 W : World) (q sg : Nat) (A : Option Addr) (nn cn : Nat) (root : Int) (F : Option Addr) (cf : Nat) (fr : List Int) (cs : Nat) (b : Bool) (a : Cells) (S : Nat → Bool) (h : Lk W q sg A nn cn root (.slice F fr.length cf) cs b S) (hW : Buts (Sn q sg) W0 W) (hR : ∀ W', Buts (Sn q sg) W0 W' → Rd W' A nn a) (hF : ∀ W', Buts (Sn q sg) W0 W' → Kd.C (Kd.int .i64) W' F fr.length fr) (hl : fr.length ≤ 281474976710656) :
  Calls Try.prog 53 #[.pointer (some ⟨q, 0, none⟩)] W fun e W' => e = .returned (.tuple #[]) ∧ Buts (Sn q sg) W W' ∧ ((∃ S', freeF a nn S fr = some S' ∧ Lk W' q sg A nn cn root (.slice F fr.length cf) cs b S') ∨ (freeF a nn S fr = none ∧ ∃ S', Lk W' q sg A nn cn root (.slice F fr.length cf) cs false S')) := by
 have c2 := blk_cell h.blk 2
 simp at c2
 have HL := Lib.hid h
 have HW := Lib.hid hW
 have HR := Lib.hid hR
 have HF := Lib.hid hF
 clear h hW hR hF
 go_enter Try.func53, Try.ntmps53
 go_wp2_with fail
 go_loopw [11] (FreeAt W q sg A nn cn root F cf fr cs b a S) (fun i _ => fr.length - (intOf i).toNat)
 case atStart => exact ⟨0, S, rfl, Nat.zero_le _, rfl, HL.out, Buts.refl _ _⟩
 case round =>
  obtain ⟨k, S1, rfl, hk, hff, hlk, hb⟩ := hrel
  have HL1 := Lib.hid hlk
  have HB1 := Lib.hid hb
  have HFF := Lib.hid hff
  have HW1 := Lib.hid (HW.out.trans hb)
  clear c2 hff hlk hb
  by_cases hlt : k < fr.length
  case neg =>
   have HV : Hid (freeF a nn S fr = some S1) := Lib.hid (by rw [HFF.out, List.drop_of_length_le (by omega)]; rfl)
   go_wp2
   go_end0
   exact ⟨rfl, HB1.out, .inl ⟨S1, HV.out, HL1.out⟩⟩
  case pos =>
   obtain ⟨fd, eF, xk⟩ := Kd.at_int (HF.out wr HW1.out) (k : Int) (by omega) (by omega)
   rw [Int.toNat_natCast] at xk
   have hrd : rd fr (k : Int) = fr[k] := by unfold rd; rw [Int.toNat_natCast]; simp [List.getD, List.getElem?_eq_getElem hlt]
   rw [hrd] at xk
   have HD : Hid (freeF a nn S fr = if freeOk a nn S1 fr[k] = true then freeF a nn (plus S1 (fr[k]).toNat) (fr.drop (k + 1)) else none) := Lib.hid (by rw [HFF.out, List.drop_eq_getElem_cons hlt]; rfl)
   clear HFF
   generalize fr[k] = x at xk HD
   clear hrd
   subst eF
   have c0 := blk_cell HL1.out.blk 0
   have c3 := blk_cell HL1.out.blk 3
   have c4 := blk_cell HL1.out.blk 4
   simp at c0 c3 c4
   have f4 := blk_frozen HL1.out.blk 4
   have hd : decide ((k : Int) < (fr.length : Int)) = true := by simpa using hlt
   have hwk : IntKind.i64.wrap ((k : Int) + 1) = (k : Int) + 1 := IntWalk.i64_in _ (by omega)
   by_cases h0 : x < 0
   ·have hd0 : decide (x < 0) = true := by simpa using h0
    have HV : Hid (freeF a nn S fr = none) := Lib.hid (by rw [HD.out, if_neg (fun e => by have := freeOk_iff.1 e; omega)])
    clear h0
    go_wp2_with fail
    ((try simp only [Exit.inBlock, Exit.then]); refine bodyPost_ret (results_none rfl _ _ _) rfl ?_)
    exact ⟨rfl, HB1.out.trans (Buts.set (.inl rfl) _ _ _), .inr ⟨HV.out, S1, HL1.out.tell false⟩⟩
   obtain ⟨p, rfl⟩ : ∃ p : Nat, x = (p : Int) := ⟨x.toNat, by omega⟩
   rw [Int.toNat_natCast] at HD
   have hd0 : decide ((p : Int) < 0) = false := by simp
   by_cases h1 : p < nn
   case neg =>
    have hd1 : nn ≤ p := by omega
    have HV : Hid (freeF a nn S fr = none) := Lib.hid (by rw [HD.out, if_neg (fun e => by have := freeOk_iff.1 e; omega)])
    clear h0 h1
    go_wp2_with fail
    ((try simp only [Exit.inBlock, Exit.then]); refine bodyPost_ret (results_none rfl _ _ _) rfl ?_)
    exact ⟨rfl, HB1.out.trans (Buts.set (.inl rfl) _ _ _), .inr ⟨HV.out, S1, HL1.out.tell false⟩⟩
   have hd1 : decide ((p : Int) ≥ (nn : Int)) = false := by simp; omega
   have g0 : (0 : Int) ≤ (p : Int) := by omega
   have g1 : (p : Int) < (nn : Int) := by omega
   have cp := HL1.out.cell h1
   have fp := HL1.out.frozen p
   cases hS : S1 p with
   | true =>
    rw [if_pos hS] at cp
    have HV : Hid (freeF a nn S fr = none) := Lib.hid (by rw [HD.out, if_neg (fun e => by have := (freeOk_iff.1 e).2.2.1; rw [Int.toNat_natCast, hS] at this; cases this)])
    clear h0 h1 hS
    go_wp2_with fail
    ((try simp only [Exit.inBlock, Exit.then]); refine bodyPost_ret (results_none rfl _ _ _) rfl ?_)
    exact ⟨rfl, HB1.out.trans (Buts.set (.inl rfl) _ _ _), .inr ⟨HV.out, S1, HL1.out.tell false⟩⟩
   | false =>
    rw [if_neg (by rw [hS]; decide)] at cp
    obtain ⟨ad, eA, m0, mk⟩ := (HR.out wr HW1.out).at h1
    have m1 := mk 1 (by omega) (by omega)
    have m2 := mk 2 (by omega) (by omega)
    have m3 := mk 3 (by omega) (by omega)
    have m4 := mk 4 (by omega) (by omega)
    have m5 := mk 5 (by omega) (by omega)
    have m6 := mk 6 (by omega) (by omega)
    have HEA := Lib.hid eA
    rw [eA] at c0
    have HNO : Hid (∀ j, j < 7 → a (p * 7 + j) ≠ 0 → freeF a nn S fr = none) := Lib.hid (fun j hj hz => by rw [HD.out, if_neg (fun e => by have := (freeOk_iff.1 e).2.2.2 j hj; rw [Int.toNat_natCast] at this; exact hz this)])
    have HYE : Hid ((∀ j, j < 7 → a (p * 7 + j) = 0) → freeF a nn S fr = freeF a nn (plus S1 p) (fr.drop (k + 1))) := Lib.hid (fun hz => by rw [HD.out, if_pos (freeOk_iff.2 ⟨by omega, by omega, by rw [Int.toNat_natCast]; exact hS, by rw [Int.toNat_natCast]; exact hz⟩)])
    have HKL := Lib.hid hlt
    clear h0 mk eA hS HD
    by_cases z0 : a (p * 7) = 0
    case neg =>
     have d0 : (a (p * 7) == 0) = false := by simpa using z0
     have HV := Lib.hid (HNO.out 0 (by omega) z0)
     clear HNO HYE z0 h1
     go_wp2_with fail
     ((try simp only [Exit.inBlock, Exit.then]); refine bodyPost_ret (results_none rfl _ _ _) rfl ?_)
     exact ⟨rfl, HB1.out.trans (Buts.set (.inl rfl) _ _ _), .inr ⟨HV.out, S1, HL1.out.tell false⟩⟩
    have Z0 := Lib.hid z0
    rw [z0] at m0
    clear z0
    by_cases z1 : a (p * 7 + 1) = 0
    case neg =>
     have d1 : (a (p * 7 + 1) == 0) = false := by simpa using z1
     have HV := Lib.hid (HNO.out 1 (by omega) z1)
     clear HNO HYE z1 h1
     go_wp2_with fail
     ((try simp only [Exit.inBlock, Exit.then]); refine bodyPost_ret (results_none rfl _ _ _) rfl ?_)
     exact ⟨rfl, HB1.out.trans (Buts.set (.inl rfl) _ _ _), .inr ⟨HV.out, S1, HL1.out.tell false⟩⟩
    have Z1 := Lib.hid z1
    rw [z1] at m1
    clear z1
    by_cases z2 : a (p * 7 + 2) = 0
    case neg =>
     have d2 : (a (p * 7 + 2) == 0) = false := by simpa using z2
     have HV := Lib.hid (HNO.out 2 (by omega) z2)
     clear HNO HYE z2 h1
     go_wp2_with fail
     ((try simp only [Exit.inBlock, Exit.then]); refine bodyPost_ret (results_none rfl _ _ _) rfl ?_)
     exact ⟨rfl, HB1.out.trans (Buts.set (.inl rfl) _ _ _), .inr ⟨HV.out, S1, HL1.out.tell false⟩⟩
    have Z2 := Lib.hid z2
    rw [z2] at m2
    clear z2
    by_cases z3 : a (p * 7 + 3) = 0
    case neg =>
     have d3 : (a (p * 7 + 3) == 0) = false := by simpa using z3
     have HV := Lib.hid (HNO.out 3 (by omega) z3)
     clear HNO HYE z3 h1
     go_wp2_with fail
     ((try simp only [Exit.inBlock, Exit.then]); refine bodyPost_ret (results_none rfl _ _ _) rfl ?_)
     exact ⟨rfl, HB1.out.trans (Buts.set (.inl rfl) _ _ _), .inr ⟨HV.out, S1, HL1.out.tell false⟩⟩
    have Z3 := Lib.hid z3
    rw [z3] at m3
    clear z3
    by_cases z4 : a (p * 7 + 4) = 0
    case neg =>
     have d4 : (a (p * 7 + 4) == 0) = false := by simpa using z4
     have HV := Lib.hid (HNO.out 4 (by omega) z4)
     clear HNO HYE z4 h1
     go_wp2_with fail
     ((try simp only [Exit.inBlock, Exit.then]); refine bodyPost_ret (results_none rfl _ _ _) rfl ?_)
     exact ⟨rfl, HB1.out.trans (Buts.set (.inl rfl) _ _ _), .inr ⟨HV.out, S1, HL1.out.tell false⟩⟩
    have Z4 := Lib.hid z4
    rw [z4] at m4
    clear z4
    by_cases z5 : a (p * 7 + 5) = 0
    case neg =>
     have d5 : (a (p * 7 + 5) == 0) = false := by simpa using z5
     have HV := Lib.hid (HNO.out 5 (by omega) z5)
     clear HNO HYE z5 h1
     go_wp2_with fail
     ((try simp only [Exit.inBlock, Exit.then]); refine bodyPost_ret (results_none rfl _ _ _) rfl ?_)
     exact ⟨rfl, HB1.out.trans (Buts.set (.inl rfl) _ _ _), .inr ⟨HV.out, S1, HL1.out.tell false⟩⟩
    have Z5 := Lib.hid z5
    rw [z5] at m5
    clear z5
    by_cases z6 : a (p * 7 + 6) = 0
    case neg =>
     have d6 : (a (p * 7 + 6) == 0) = false := by simpa using z6
     have HV := Lib.hid (HNO.out 6 (by omega) z6)
     clear HNO HYE z6 h1
     go_wp2_with fail
     ((try simp only [Exit.inBlock, Exit.then]); refine bodyPost_ret (results_none rfl _ _ _) rfl ?_)
     exact ⟨rfl, HB1.out.trans (Buts.set (.inl rfl) _ _ _), .inr ⟨HV.out, S1, HL1.out.tell false⟩⟩
    have Z6 := Lib.hid z6
    rw [z6] at m6
    clear z6
    have HV := Lib.hid (HYE.out (fun j hj => by match j, hj with | 0, _ => exact Z0.out | 1, _ => exact Z1.out | 2, _ => exact Z2.out | 3, _ => exact Z3.out | 4, _ => exact Z4.out | 5, _ => exact Z5.out | 6, _ => exact Z6.out))
    clear HNO HYE Z0 Z1 Z2 Z3 Z4 Z5 Z6 h1
    go_wp2_with fail
    go_roundw
    case rel => exact ⟨k + 1, _, by go_num, by have := HKL.out; omega, HV.out, HL1.out.see p, HB1.out.trans (Buts.set (.inr rfl) _ _ _)⟩
    case measure => simp [intOf]; omega
end Go.Proofs.Ytgkjpffbgnljeaa.Man
-- written by this session's program mprint.py: functions of the Go program, and their contracts
namespace Go.Proofs.Ytgkjpffbgnljeaa.QI
open Go.RowKit Go.Proofs.Ytgkjpffbgnljeaa.Au Go.Proofs.Ytgkjpffbgnljeaa.QT  Go.Proofs.YtgkjpffbgnljeaaW.PrintWords Go.Proofs.YtgkjpffbgnljeaaW.PrintLast Go.Proofs.YtgkjpffbgnljeaaW.PrintMore
attribute [local go_sem] max2_int min2_int max_two min_two max_three min_three max_four min_four
set_option linter.unusedVariables false
set_option linter.unusedSimpArgs false
def span_May.f (a0_0 : Int) (a0_1 : Int) : Option (Bool) := if a0_0 ≥ 0 then (if a0_0 < a0_1 then (some (decide (a0_1 ≤ 4096))) else (some false)) else (some false)
set_option maxHeartbeats 8000000 in
set_option maxRecDepth 100000 in
theorem span_May.calls (a0_0 : Int) (a0_1 : Int) (r : Bool) (w : World) (h : span_May.f a0_0 a0_1 = some r) :
  Calls Try.prog 47 #[.agg #[.int .i64 a0_0, .int .i64 a0_1]] w fun e w' => e = .returned (.bool r) ∧ Below w.heap.size w w' := by
 have hu27 := Try.underlying27
 have HB := zK (Below.refl w.heap.size w)
 have H : (if a0_0 ≥ 0 then (if a0_0 < a0_1 then (some (decide (a0_1 ≤ 4096))) else (some false)) else (some false)) = some r := h
 clear h
 by_cases c2 : a0_0 ≥ 0
 ·rw [if_pos c2] at H
  have c2b0 : decide (0 ≤ a0_0) = true := decide_eq_true c2
  clear c2
  by_cases c3 : a0_0 < a0_1
  ·rw [if_pos c3] at H
   have c3b0 : decide (a0_0 < a0_1) = true := decide_eq_true c3
   clear c3
   obtain rfl := Option.some.inj H
   go_enter Try.func47, Try.ntmps47
   go_wp2_with (first | ((with_reducible refine gate_dst (N := 1) rfl ?_); refine box_event ?hg (N := 1) ?hd (cs := #[.int .i64 a0_0, .int .i64 a0_1]) (t := 27) ?hr ?_; (case hd => rfl); (case hg => rfl); (case hr => first | (go_simp; done) | (go_simp; rfl)); intro gb101 hg w4 hbox hb; have n0_ := zK (yF (zl HB.out) hb); have n1_ := zK (hbox); have n2_ := zK ((by rw [hg]; exact (yG (zl HB.out)) : w.heap.size ≤ gb101)); have n3_ := zK ((by rw [hg]; exact (yG (zl HB.out)) : w.heap.size ≤ gb101)); clear HB; have HB := n0_; have BK101 := n1_; have GW101 := n2_; have GE101 := n3_; clear n0_ n1_ n2_ n3_; clear hb hbox hg; have hcz5_0 : w4.cell? ⟨gb101, 0, none⟩ = some (.int .i64 a0_0) := (zQ BK101.out 0).trans rfl; have hcz5_1 : w4.cell? ⟨gb101, 1, none⟩ = some (.int .i64 a0_1) := (zQ BK101.out 1).trans rfl; have hfz5_0 := zR BK101.out 0; have hfz5_1 := zR BK101.out 1))
   go_ret
   exact ⟨ze, zl HB.out⟩
  ·rw [if_neg c3] at H
   have c3b0 : decide (a0_0 < a0_1) = false := decide_eq_false c3
   clear c3
   obtain rfl := Option.some.inj H
   go_enter Try.func47, Try.ntmps47
   go_wp2_with (first | ((with_reducible refine gate_dst (N := 1) rfl ?_); refine box_event ?hg (N := 1) ?hd (cs := #[.int .i64 a0_0, .int .i64 a0_1]) (t := 27) ?hr ?_; (case hd => rfl); (case hg => rfl); (case hr => first | (go_simp; done) | (go_simp; rfl)); intro gb101 hg w6 hbox hb; have n0_ := zK (yF (zl HB.out) hb); have n1_ := zK (hbox); have n2_ := zK ((by rw [hg]; exact (yG (zl HB.out)) : w.heap.size ≤ gb101)); have n3_ := zK ((by rw [hg]; exact (yG (zl HB.out)) : w.heap.size ≤ gb101)); clear HB; have HB := n0_; have BK101 := n1_; have GW101 := n2_; have GE101 := n3_; clear n0_ n1_ n2_ n3_; clear hb hbox hg; have hcz7_0 : w6.cell? ⟨gb101, 0, none⟩ = some (.int .i64 a0_0) := (zQ BK101.out 0).trans rfl; have hcz7_1 : w6.cell? ⟨gb101, 1, none⟩ = some (.int .i64 a0_1) := (zQ BK101.out 1).trans rfl; have hfz7_0 := zR BK101.out 0; have hfz7_1 := zR BK101.out 1))
   go_ret
   exact ⟨ze, zl HB.out⟩
 ·rw [if_neg c2] at H
  have c2b0 : decide (0 ≤ a0_0) = false := decide_eq_false c2
  clear c2
  obtain rfl := Option.some.inj H
  go_enter Try.func47, Try.ntmps47
  go_wp2_with (first | ((with_reducible refine gate_dst (N := 1) rfl ?_); refine box_event ?hg (N := 1) ?hd (cs := #[.int .i64 a0_0, .int .i64 a0_1]) (t := 27) ?hr ?_; (case hd => rfl); (case hg => rfl); (case hr => first | (go_simp; done) | (go_simp; rfl)); intro gb101 hg w8 hbox hb; have n0_ := zK (yF (zl HB.out) hb); have n1_ := zK (hbox); have n2_ := zK ((by rw [hg]; exact (yG (zl HB.out)) : w.heap.size ≤ gb101)); have n3_ := zK ((by rw [hg]; exact (yG (zl HB.out)) : w.heap.size ≤ gb101)); clear HB; have HB := n0_; have BK101 := n1_; have GW101 := n2_; have GE101 := n3_; clear n0_ n1_ n2_ n3_; clear hb hbox hg; have hcz9_0 : w8.cell? ⟨gb101, 0, none⟩ = some (.int .i64 a0_0) := (zQ BK101.out 0).trans rfl; have hcz9_1 : w8.cell? ⟨gb101, 1, none⟩ = some (.int .i64 a0_1) := (zQ BK101.out 1).trans rfl; have hfz9_0 := zR BK101.out 0; have hfz9_1 := zR BK101.out 1))
  go_ret
  exact ⟨ze, zl HB.out⟩
def BlkA (W : World) (g : Nat) (a b c : Value) : Prop := ∃ (t : Nat) (ext : List Value), (t = 97 ∨ t = 99) ∧ W.heap[g]? = some (.cells (a :: b :: c :: ext).toArray t (0, 0))
def IsS97 (w0 W : World) (g : Nat) (f0 : List (S64)) (f1 : Int) (f2 : List Int) : Prop := ∃ A0 c0, ∃ A2 c2, BlkA W g (.slice A0 f0.length c0) (.int .i64 f1) (.slice A2 f2.length c2) ∧ w0.heap.size ≤ g ∧ Kd.C k64 w0 A0 f0.length f0 ∧ Kd.C (Kd.int .i64) w0 A2 f2.length f2
theorem IsS97.grown {w0 W : World} {g : Nat} {f0 : List (S64)} {f1 : Int} {f2 : List Int} {W1 : World} {row : Option Nat} (h : IsS97 w0 W g f0 f1 f2) (hw : W.grownBy W1 row) (hne : some g ≠ row) : IsS97 w0 W1 g f0 f1 f2 := by
 obtain ⟨A0, c0, A2, c2, ⟨t, ext, ht, hb⟩, hg, hr0, hr2⟩ := h
 exact ⟨A0, c0, A2, c2, ⟨t, ext, ht, blk_grown hb hw hne⟩, hg, hr0, hr2⟩
theorem IsS97.kept {w0 W : World} {g : Nat} {f0 : List (S64)} {f1 : Int} {f2 : List Int} {W1 : World} {S : Nat → Prop} (h : IsS97 w0 W g f0 f1 f2) (hk : Kept W W1 S) (hne : ¬ S g) : IsS97 w0 W1 g f0 f1 f2 := by
 obtain ⟨A0, c0, A2, c2, ⟨t, ext, ht, hb⟩, hg, hr0, hr2⟩ := h
 exact ⟨A0, c0, A2, c2, ⟨t, ext, ht, blk_kept hb hk hne⟩, hg, hr0, hr2⟩
theorem IsS97.below {w0 W : World} {g : Nat} {f0 : List (S64)} {f1 : Int} {f2 : List Int} {W1 : World} (h : IsS97 w0 W g f0 f1 f2) (hw : Below W.heap.size W W1) : IsS97 w0 W1 g f0 f1 f2 := h.grown (grown_of_below hw none) (by simp)
theorem IsS97.alloc {w0 W : World} {g : Nat} {f0 : List (S64)} {f1 : Int} {f2 : List Int} (h : IsS97 w0 W g f0 f1 f2) (o : Obj) : IsS97 w0 (W.alloc o) g f0 f1 f2 := h.below (zG (Below.refl _ _) o)
theorem IsS97.drewN {w0 W : World} {g : Nat} {f0 : List (S64)} {f1 : Int} {f2 : List Int} (h : IsS97 w0 W g f0 f1 f2) (m : Nat) : IsS97 w0 (W.drewN m) g f0 f1 f2 := h
theorem IsS97.drew {w0 W : World} {g : Nat} {f0 : List (S64)} {f1 : Int} {f2 : List Int} (h : IsS97 w0 W g f0 f1 f2) : IsS97 w0 W.drew g f0 f1 f2 := h
theorem IsS97.at_ {w0 W : World} {g : Nat} {f0 : List (S64)} {f1 : Int} {f2 : List Int} {w' : World} {m : Nat} (hq : W.drewN m = w') (h : IsS97 w0 W g f0 f1 f2) : IsS97 w0 w' g f0 f1 f2 := by subst hq; exact IsS97.drewN h m
theorem IsS97.apart {w0 W : World} {g : Nat} {f0 : List (S64)} {f1 : Int} {f2 : List Int} {α : Type} {d : Kd α} {e : Nat} {base : Nat} {ok : Nat → Prop} {v : Value} {xs : List α} (h : IsS97 w0 W g f0 f1 f2) (ho : d.R e W base ok v xs) (ht : ∀ q, q ∈ e :: d.E → q ≠ 97 ∧ q ≠ 99) : d.R e W base (fun k => ok k ∧ k ≠ g) v xs := by
 obtain ⟨A0, c0, A2, c2, ⟨t, ext, htt, hb⟩, hg, hr0, hr2⟩ := h
 exact Kd.R_types ho hb (fun q hq => by rcases htt with rfl | rfl; exact (ht q hq).1; exact (ht q hq).2)
theorem IsS97.own_ne {w0 W : World} {g : Nat} {f0 : List (S64)} {f1 : Int} {f2 : List Int} {α : Type} {d : Kd α} {e : Nat} {base : Nat} {ok : Nat → Prop} {v : Value} {xs : List α} (h : IsS97 w0 W g f0 f1 f2) (ho : d.R e W base ok v xs) (ht : e ≠ 97 ∧ e ≠ 99) : some g ≠ v.ownBlock := by
 obtain ⟨A0, c0, A2, c2, ⟨t, ext, htt, hb⟩, hg, hr0, hr2⟩ := h
 exact Kd.R_ne ho hb (by rcases htt with rfl | rfl; exact ht.1; exact ht.2)
theorem IsS97.lt {w0 W : World} {g : Nat} {f0 : List (S64)} {f1 : Int} {f2 : List Int} (h : IsS97 w0 W g f0 f1 f2) : g < W.heap.size := by
 obtain ⟨A0, c0, A2, c2, ⟨t, ext, ht, hb⟩, hg, hr0, hr2⟩ := h
 exact blk_lt hb
theorem IsS97.ge {w0 W : World} {g : Nat} {f0 : List (S64)} {f1 : Int} {f2 : List Int} (h : IsS97 w0 W g f0 f1 f2) : w0.heap.size ≤ g := by
 obtain ⟨A0, c0, A2, c2, hb, hg, hr0, hr2⟩ := h
 exact hg
theorem IsS97.far {w0 W : World} {g : Nat} {f0 : List (S64)} {f1 : Int} {f2 : List Int} {p : Addr} (h : IsS97 w0 W g f0 f1 f2) (hne : g ≠ p.block) (u : Value) : IsS97 w0 (W.setCell p u) g f0 f1 f2 := by
 obtain ⟨A0, c0, A2, c2, ⟨t, ext, ht, hb⟩, hg, hr0, hr2⟩ := h
 exact ⟨A0, c0, A2, c2, ⟨t, ext, ht, blk_far hb hne u⟩, hg, hr0, hr2⟩
theorem IsS97.set_1 {w0 W : World} {g : Nat} {f0 : List (S64)} {f1 : Int} {f2 : List Int} (h : IsS97 w0 W g f0 f1 f2) (x : Int) : IsS97 w0 (W.setCell ⟨g, 1, none⟩ (.int .i64 x)) g f0 x f2 := by
 obtain ⟨A0, c0, A2, c2, ⟨t, ext, ht, hb⟩, hg, hr0, hr2⟩ := h
 exact ⟨A0, c0, A2, c2, ⟨t, ext, ht, by simpa using blk_set hb 1 (.int .i64 x)⟩, hg, hr0, hr2⟩
theorem cellS97_0 {W : World} {g : Nat} {a b c : Value} (h : BlkA W g a b c) : W.cell? ⟨g, 0, none⟩ = some a := by obtain ⟨t, ext, _, hb⟩ := h; exact (zQ hb 0).trans rfl
theorem cellS97_1 {W : World} {g : Nat} {a b c : Value} (h : BlkA W g a b c) : W.cell? ⟨g, 1, none⟩ = some b := by obtain ⟨t, ext, _, hb⟩ := h; exact (zQ hb 1).trans rfl
theorem cellS97_2 {W : World} {g : Nat} {a b c : Value} (h : BlkA W g a b c) : W.cell? ⟨g, 2, none⟩ = some c := by obtain ⟨t, ext, _, hb⟩ := h; exact (zQ hb 2).trans rfl
theorem frzS97 {W : World} {g : Nat} {a b c : Value} (h : BlkA W g a b c) (j : Nat) : W.frozen? ⟨g, j, none⟩ = false := by obtain ⟨t, ext, _, hb⟩ := h; exact zR hb j
def tree_arena_items.f : Nat → List (S64) → Int → List Int → Int → List (S50) → Option ((List (S50)) × Int)
 | 0, _, _, _, _, _ => none
 | k + 1, s0_0, s0_1, s0_2, a1, l2 => if a1 = (-1) then (some (l2, s0_1)) else (if 0 ≤ a1 then (if a1 < (s0_0.length : Int) then ((tree_arena_items.f k s0_0 s0_1 s0_2 ((rd_T64 s0_0 a1).f1) l2).bind fun bt104 => ((some (([(⟨(⟨(rd_T64 s0_0 a1).f0.f0.f0, (rd_T64 s0_0 a1).f0.f0.f1⟩ : S27), (rd_T64 s0_0 a1).f0.f1⟩ : S50)] : List (S50)) : List (S50))).bind fun y108 => (if bt104.1.length + y108.length < 5864062014805 then ((tree_arena_items.f k s0_0 bt104.2 s0_2 ((rd_T64 s0_0 a1).f2) (bt104.1 ++ y108)).bind fun bt114 => (some (bt114.1, bt114.2))) else (none)))) else (none)) else (none))
def tree_arena_items.T4 : Bool × List (List Nat × List Nat) := (true, [([], []), ([], []), ([1], [1]), ([], []), ([], []), ([4], [4]), ([], []), ([3, 5, 6], [3, 5, 6]), ([], []), ([8], [8]), ([9], [9]), ([7, 10, 7], [7, 10]), ([0, 2, 11, 11], [0, 2, 11]), ([12, 12, 0, 1, 2, 3, 4, 5, 6, 7, 8, 9, 10, 11, 12], [12])])
def tree_arena_items.B4 : List Nat := [0, 0, 2, 0, 0, 16, 0, 120, 0, 256, 768, 2040, 4095, 8191]
theorem tree_arena_items.tab4 : rtab .any (opsOf Try.f46 4) = tree_arena_items.T4 := by kernel_rfl
theorem tree_arena_items.bits4 : waitsOk tree_arena_items.T4.2 tree_arena_items.B4 = true := by kernel_rfl
set_option maxHeartbeats 8000000 in
set_option maxRecDepth 100000 in
theorem tree_arena_items.calls (k : Nat) : ∀ (g : Nat) (s0_0 : List (S64)) (s0_1 : Int) (s0_2 : List Int) (a1 : Int) (P2_ : Nat → Prop) (u9000_ : Value) (l2 : List (S50)) (r1 : List (S50)) (r2 : Int) (w0 w : World) (hI : IsS97 w0 w g s0_0 s0_1 s0_2) (hB : Below w0.heap.size w0 w) (ho2 : Kd.R k50 50 w w0.heap.size P2_ u9000_ l2) (h : tree_arena_items.f k s0_0 s0_1 s0_2 a1 l2 = some (r1, r2)),
  Calls Try.prog 46 #[.pointer (some ⟨g, 0, none⟩), .int .i64 a1, u9000_] w fun e w' => ∃ v0_ : Value, e = .returned (v0_) ∧ Kd.R k50 50 w' w0.heap.size (fun k_ => (P2_ k_ ∨ w.heap.size ≤ k_)) v0_ r1 ∧ IsS97 w0 w' g s0_0 r2 s0_2 ∧ Below w0.heap.size w0 w' ∧ Kept w w' (fun k_ => (P2_ k_) ∨ k_ = g) := by
 induction k using Nat.strongRecOn with
 | _ k ih =>
 intro g s0_0 s0_1 s0_2 a1 P2_ u9000_ l2 r1 r2 w0 w hI hB ho2 h
 cases k with
 | zero => exact absurd h (by simp [tree_arena_items.f])
 | succ k =>
 simp only [tree_arena_items.f] at h
 have hu64 := Try.underlying64
 have hu50 := Try.underlying50
 have HO2 := zK (show Kd.R k50 50 w w0.heap.size (fun k_ => (P2_ k_ ∨ w.heap.size ≤ k_)) u9000_ l2 from Kd.R_mono ho2 (fun k_ hk => (.inl hk)))
 have HI0 := zK hI
 have HL := zK hB.size
 clear hI
 have HK := zK (Kept.refl w (fun k_ => (P2_ k_) ∨ k_ = g))
 have HW0 := zK hB.size
 have HB := zK hB
 clear hB
 have H : (if a1 = (-1) then (some (l2, s0_1)) else (if 0 ≤ a1 then (if a1 < (s0_0.length : Int) then ((tree_arena_items.f k s0_0 s0_1 s0_2 ((rd_T64 s0_0 a1).f1) l2).bind fun bt104 => ((some (([(⟨(⟨(rd_T64 s0_0 a1).f0.f0.f0, (rd_T64 s0_0 a1).f0.f0.f1⟩ : S27), (rd_T64 s0_0 a1).f0.f1⟩ : S50)] : List (S50)) : List (S50))).bind fun y108 => (if bt104.1.length + y108.length < 5864062014805 then ((tree_arena_items.f k s0_0 bt104.2 s0_2 ((rd_T64 s0_0 a1).f2) (bt104.1 ++ y108)).bind fun bt114 => (some (bt114.1, bt114.2))) else (none)))) else (none)) else (none))) = some (r1, r2) := h
 clear h
 by_cases c4 : a1 = (-1)
 ·rw [if_pos c4] at H
  have c4b0 : (a1 == (-1)) = true := yI.mpr c4
  have c4b1 : (a1 != (-1)) = false := yJ.mpr c4
  clear c4
  simp only [Option.some.injEq, Prod.mk.injEq] at H
  obtain ⟨rfl, rfl⟩ := H
  go_enter Try.func46, Try.ntmps46
  go_wp2
  go_ret
  exact ⟨_, by first | rfl | (simp [errW_none, errW_some] <;> rfl) | (simp [*, errW_none, errW_some] <;> rfl), by (with_reducible repeat (first | apply zA | apply zB | apply zC)); exact HO2.out, by repeat (first | (with_reducible first | exact HI0.out | apply IsS97.alloc | apply IsS97.drewN | apply IsS97.drew | apply IsS97.set_1) | exact HI0.out), by repeat (first | (with_reducible first | exact HB.out | apply zG | apply zH | apply zI | refine zL ?_ (IsS97.ge HI0.out)) | exact HB.out), by repeat (first | (with_reducible first | exact HK.out | apply Kept.alloc | apply Kept.drewN | apply Kept.drew | refine Kept.setCell ?_ (.inl (.inr rfl)) _) | exact HK.out)⟩
 ·rw [if_neg c4] at H
  have c4b0 : (a1 == (-1)) = false := yK.mpr c4
  have c4b1 : (a1 != (-1)) = true := yL.mpr c4
  by_cases c5 : 0 ≤ a1
  ·rw [if_pos c5] at H
   have c5b0 : decide (0 ≤ a1) = true := decide_eq_true c5
   clear c5
   by_cases c6 : a1 < (s0_0.length : Int)
   ·rw [if_pos c6] at H
    have c6b0 : decide (a1 < (s0_0.length : Int)) = true := decide_eq_true c6
    clear c6
    replace H := yH.mp H
    obtain ⟨⟨t104, t107⟩, A70, H⟩ := H
    replace H : ((some (([(⟨(⟨(rd_T64 s0_0 a1).f0.f0.f0, (rd_T64 s0_0 a1).f0.f0.f1⟩ : S27), (rd_T64 s0_0 a1).f0.f1⟩ : S50)] : List (S50)) : List (S50))).bind fun y108 => (if t104.length + y108.length < 5864062014805 then ((tree_arena_items.f k s0_0 t107 s0_2 ((rd_T64 s0_0 a1).f2) (t104 ++ y108)).bind fun bt114 => (some (bt114.1, bt114.2))) else (none))) = some (r1, r2) := H
    have A7 := zK A70
    clear A70
    obtain ⟨y108, hy108⟩ : ∃ y_ : List (S50), y_ = (([(⟨(⟨(rd_T64 s0_0 a1).f0.f0.f0, (rd_T64 s0_0 a1).f0.f0.f1⟩ : S27), (rd_T64 s0_0 a1).f0.f1⟩ : S50)] : List (S50))) := ⟨_, rfl⟩
    replace H : (if t104.length + y108.length < 5864062014805 then ((tree_arena_items.f k s0_0 t107 s0_2 ((rd_T64 s0_0 a1).f2) (t104 ++ y108)).bind fun bt114 => (some (bt114.1, bt114.2))) else (none)) = some (r1, r2) := by first | (rw [hy108]; with_reducible exact H) | (have H2_ := (Option.bind_some _ _).symm.trans H; rw [hy108]; with_reducible exact H2_) | (have H2_ := (Option.bind_some _ _).symm.trans H; with_reducible exact H2_) | with_reducible exact H | (rw [hy108]; exact H) | exact H
    have Ny108 := zK hy108
    clear hy108
    by_cases c8 : t104.length + y108.length < 5864062014805
    ·rw [if_pos c8] at H
     have LMc8 := zK c8
     clear c8
     obtain ⟨y111, hy111⟩ : ∃ y_ : List (S50), y_ = (t104 ++ y108) := ⟨_, rfl⟩
     replace H : ((tree_arena_items.f k s0_0 t107 s0_2 ((rd_T64 s0_0 a1).f2) y111).bind fun bt114 => (some (bt114.1, bt114.2))) = some (r1, r2) := by first | (rw [hy111]; with_reducible exact H) | (have H2_ := (Option.bind_some _ _).symm.trans H; rw [hy111]; with_reducible exact H2_) | (have H2_ := (Option.bind_some _ _).symm.trans H; with_reducible exact H2_) | with_reducible exact H | (rw [hy111]; exact H) | exact H
     have Ny111 := zK hy111
     clear hy111
     replace H := yH.mp H
     obtain ⟨⟨t114, t117⟩, A90, H⟩ := H
     replace H : (some (t114, t117)) = some (r1, r2) := H
     have A9 := zK A90
     clear A90
     simp only [Option.some.injEq, Prod.mk.injEq] at H
     obtain ⟨rfl, rfl⟩ := H
     obtain ⟨ASz10_0, cSz10_0, ASz10_2, cSz10_2, HGz10, hgz10, HSz10_0, HSz10_2⟩ := HI0.out
     have hcz10_0 := cellS97_0 HGz10
     have hcz10_1 := cellS97_1 HGz10
     have hcz10_2 := cellS97_2 HGz10
     have hfz10_1 := frzS97 HGz10 1
     clear HGz10 hgz10
     have p102 : 0 ≤ (a1 : Int) := of_decide_eq_true (by first | (with_reducible assumption) | assumption)
     have q102 : a1 < (s0_0.length : Int) := of_decide_eq_true (by first | (with_reducible assumption) | assumption)
     obtain ⟨ad102, e102, hx102_0, hx102_1, hx102_2, hx102_3, hx102_4, hx102_5, hx102_6⟩ := at_T64 HSz10_0 a1 p102 q102
     cases e102
     replace hx102_0 := pw_cell_below HB.out hx102_0
     replace hx102_1 := pw_cell_below HB.out hx102_1
     replace hx102_2 := pw_cell_below HB.out hx102_2
     replace hx102_3 := pw_cell_below HB.out hx102_3
     replace hx102_4 := pw_cell_below HB.out hx102_4
     replace hx102_5 := pw_cell_below HB.out hx102_5
     replace hx102_6 := pw_cell_below HB.out hx102_6
     replace p102 := eq_true p102
     replace q102 := eq_true q102
     go_enter Try.func46, Try.ntmps46
     try go_wp2_with (first | ((with_reducible refine gate_dst (N := 7) rfl ?_); refine box_event ?hg (N := 7) ?hd (cs := #[.int .i64 0, .int .i64 0, .int .i64 0, .int .i64 0, .int .i64 0, .int .i64 0, .int .i64 0]) (t := 64) ?hr ?_; (case hd => rfl); (case hg => rfl); (case hr => first | (go_simp; done) | (go_simp; rfl)); intro gb103 hg w11 hbox hb; have n0_ := zK (zO (zr HO2.out) hb); have n1_ := zK (IsS97.below (by repeat (first | (with_reducible first | exact HI0.out | apply IsS97.alloc | apply IsS97.drewN | apply IsS97.drew | apply IsS97.set_1) | exact HI0.out)) hb); have n2_ := zK (Kept.below (S := (fun k_ => (P2_ k_) ∨ k_ = g)) (by repeat (first | (with_reducible first | exact HK.out | apply Kept.alloc | apply Kept.drewN | apply Kept.drew | refine Kept.setCell ?_ (.inl (.inr rfl)) _) | exact HK.out)) hb); have n3_ := zK (yF (by repeat (first | (with_reducible first | exact HB.out | apply zG | apply zH | apply zI | refine zL ?_ (IsS97.ge HI0.out)) | exact HB.out)) hb); have n4_ := zK (hbox); have n5_ := zK ((by rw [hg]; exact (by first | exact HK.out.1 | exact (show Kept w _ (fun k_ => (P2_ k_) ∨ k_ = g) from by repeat (first | (with_reducible first | exact HK.out | apply Kept.alloc | apply Kept.drewN | apply Kept.drew | refine Kept.setCell ?_ (.inl (.inr rfl)) _) | exact HK.out)).1) : w.heap.size ≤ gb103)); have n6_ := zK ((by rw [hg]; exact (yG (by repeat (first | (with_reducible first | exact HB.out | apply zG | apply zH | apply zI | refine zL ?_ (IsS97.ge HI0.out)) | exact HB.out))) : w0.heap.size ≤ gb103)); have n7_ := zK ((by rw [hg]; exact zN (IsS97.lt (show IsS97 w0 _ g s0_0 s0_1 s0_2 from by repeat (first | (with_reducible first | exact HI0.out | apply IsS97.alloc | apply IsS97.drewN | apply IsS97.drew | apply IsS97.set_1) | exact HI0.out))) : g ≠ gb103)); have n8_ := zK ((by rw [hg]; exact Nat.ne_of_gt (IsS97.lt (show IsS97 w0 _ g s0_0 s0_1 s0_2 from by repeat (first | (with_reducible first | exact HI0.out | apply IsS97.alloc | apply IsS97.drewN | apply IsS97.drew | apply IsS97.set_1) | exact HI0.out))) : gb103 ≠ g)); clear HO2; clear HI0; clear HK; clear HB; have HO2 := n0_; have HI0 := n1_; have HK := n2_; have HB := n3_; have BK103 := n4_; have GW103 := n5_; have GE103 := n6_; have NB0_103 := n7_; have NB103_0 := n8_; clear n0_ n1_ n2_ n3_ n4_ n5_ n6_ n7_ n8_; clear hb hbox hg; have hnb12 := NB103_0.out; have hnc12 := NB0_103.out; have hcz13_0 : w11.cell? ⟨gb103, 0, none⟩ = some (.int .i64 0) := (zQ BK103.out 0).trans rfl; have hcz13_1 : w11.cell? ⟨gb103, 1, none⟩ = some (.int .i64 0) := (zQ BK103.out 1).trans rfl; have hcz13_2 : w11.cell? ⟨gb103, 2, none⟩ = some (.int .i64 0) := (zQ BK103.out 2).trans rfl; have hcz13_3 : w11.cell? ⟨gb103, 3, none⟩ = some (.int .i64 0) := (zQ BK103.out 3).trans rfl; have hcz13_4 : w11.cell? ⟨gb103, 4, none⟩ = some (.int .i64 0) := (zQ BK103.out 4).trans rfl; have hcz13_5 : w11.cell? ⟨gb103, 5, none⟩ = some (.int .i64 0) := (zQ BK103.out 5).trans rfl; have hcz13_6 : w11.cell? ⟨gb103, 6, none⟩ = some (.int .i64 0) := (zQ BK103.out 6).trans rfl; have hfz13_0 := zR BK103.out 0; have hfz13_1 := zR BK103.out 1; have hfz13_2 := zR BK103.out 2; have hfz13_3 := zR BK103.out 3; have hfz13_4 := zR BK103.out 4; have hfz13_5 := zR BK103.out 5; have hfz13_6 := zR BK103.out 6; obtain ⟨Ao14, co14, eo14⟩ := yE HO2.out; subst eo14))
     have n0_ : Aside0 (Kd.R k50 50 (((((((w11.setCell ⟨gb103, 0, none⟩ (.int .i64 ((rd_T64 s0_0 a1).f0.f0.f0))).setCell ⟨gb103, 1, none⟩ (.int .i64 ((rd_T64 s0_0 a1).f0.f0.f1))).setCell ⟨gb103, 2, none⟩ (.int .i64 ((rd_T64 s0_0 a1).f0.f1))).setCell ⟨gb103, 3, none⟩ (.int .i64 ((rd_T64 s0_0 a1).f1))).setCell ⟨gb103, 4, none⟩ (.int .i64 ((rd_T64 s0_0 a1).f2))).setCell ⟨gb103, 5, none⟩ (.int .i64 ((rd_T64 s0_0 a1).f3))).setCell ⟨gb103, 6, none⟩ (.int .i64 ((rd_T64 s0_0 a1).f4))) w0.heap.size (fun k_ => (P2_ k_ ∨ w.heap.size ≤ k_)) (.slice Ao14 l2.length co14) l2) := ⟨by (with_reducible repeat (first | apply zA | apply zB | apply zC)); exact Kd.R_mono (Kd.R_far (p := ⟨gb103, 6, none⟩) (Kd.R_far (p := ⟨gb103, 5, none⟩) (Kd.R_far (p := ⟨gb103, 4, none⟩) (Kd.R_far (p := ⟨gb103, 3, none⟩) (Kd.R_far (p := ⟨gb103, 2, none⟩) (Kd.R_far (p := ⟨gb103, 1, none⟩) (Kd.R_far (p := ⟨gb103, 0, none⟩) (Kd.R_types HO2.out BK103.out (by decide)) (fun _ hk => hk.2) (.int .i64 ((rd_T64 s0_0 a1).f0.f0.f0))) (fun _ hk => hk.2) (.int .i64 ((rd_T64 s0_0 a1).f0.f0.f1))) (fun _ hk => hk.2) (.int .i64 ((rd_T64 s0_0 a1).f0.f1))) (fun _ hk => hk.2) (.int .i64 ((rd_T64 s0_0 a1).f1))) (fun _ hk => hk.2) (.int .i64 ((rd_T64 s0_0 a1).f2))) (fun _ hk => hk.2) (.int .i64 ((rd_T64 s0_0 a1).f3))) (fun _ hk => hk.2) (.int .i64 ((rd_T64 s0_0 a1).f4))) (fun _ hk => hk.1)⟩
     have n1_ : Aside0 ((((((((w11.setCell ⟨gb103, 0, none⟩ (.int .i64 ((rd_T64 s0_0 a1).f0.f0.f0))).setCell ⟨gb103, 1, none⟩ (.int .i64 ((rd_T64 s0_0 a1).f0.f0.f1))).setCell ⟨gb103, 2, none⟩ (.int .i64 ((rd_T64 s0_0 a1).f0.f1))).setCell ⟨gb103, 3, none⟩ (.int .i64 ((rd_T64 s0_0 a1).f1))).setCell ⟨gb103, 4, none⟩ (.int .i64 ((rd_T64 s0_0 a1).f2))).setCell ⟨gb103, 5, none⟩ (.int .i64 ((rd_T64 s0_0 a1).f3))).setCell ⟨gb103, 6, none⟩ (.int .i64 ((rd_T64 s0_0 a1).f4))).heap[gb103]? = some (.cells #[.int .i64 ((rd_T64 s0_0 a1).f0.f0.f0), .int .i64 ((rd_T64 s0_0 a1).f0.f0.f1), .int .i64 ((rd_T64 s0_0 a1).f0.f1), .int .i64 ((rd_T64 s0_0 a1).f1), .int .i64 ((rd_T64 s0_0 a1).f2), .int .i64 ((rd_T64 s0_0 a1).f3), .int .i64 ((rd_T64 s0_0 a1).f4)] 64 (0, 0))) := ⟨by (with_reducible repeat (first | refine zD ?_ _ | refine zE ?_ | refine zF ?_ _)); refine blk_put (cs := #[.int .i64 ((rd_T64 s0_0 a1).f0.f0.f0), .int .i64 ((rd_T64 s0_0 a1).f0.f0.f1), .int .i64 ((rd_T64 s0_0 a1).f0.f1), .int .i64 ((rd_T64 s0_0 a1).f1), .int .i64 ((rd_T64 s0_0 a1).f2), .int .i64 ((rd_T64 s0_0 a1).f3), .int .i64 0]) ?_ 6 _ rfl; (with_reducible repeat (first | refine zD ?_ _ | refine zE ?_ | refine zF ?_ _)); refine blk_put (cs := #[.int .i64 ((rd_T64 s0_0 a1).f0.f0.f0), .int .i64 ((rd_T64 s0_0 a1).f0.f0.f1), .int .i64 ((rd_T64 s0_0 a1).f0.f1), .int .i64 ((rd_T64 s0_0 a1).f1), .int .i64 ((rd_T64 s0_0 a1).f2), .int .i64 0, .int .i64 0]) ?_ 5 _ rfl; (with_reducible repeat (first | refine zD ?_ _ | refine zE ?_ | refine zF ?_ _)); refine blk_put (cs := #[.int .i64 ((rd_T64 s0_0 a1).f0.f0.f0), .int .i64 ((rd_T64 s0_0 a1).f0.f0.f1), .int .i64 ((rd_T64 s0_0 a1).f0.f1), .int .i64 ((rd_T64 s0_0 a1).f1), .int .i64 0, .int .i64 0, .int .i64 0]) ?_ 4 _ rfl; (with_reducible repeat (first | refine zD ?_ _ | refine zE ?_ | refine zF ?_ _)); refine blk_put (cs := #[.int .i64 ((rd_T64 s0_0 a1).f0.f0.f0), .int .i64 ((rd_T64 s0_0 a1).f0.f0.f1), .int .i64 ((rd_T64 s0_0 a1).f0.f1), .int .i64 0, .int .i64 0, .int .i64 0, .int .i64 0]) ?_ 3 _ rfl; (with_reducible repeat (first | refine zD ?_ _ | refine zE ?_ | refine zF ?_ _)); refine blk_put (cs := #[.int .i64 ((rd_T64 s0_0 a1).f0.f0.f0), .int .i64 ((rd_T64 s0_0 a1).f0.f0.f1), .int .i64 0, .int .i64 0, .int .i64 0, .int .i64 0, .int .i64 0]) ?_ 2 _ rfl; (with_reducible repeat (first | refine zD ?_ _ | refine zE ?_ | refine zF ?_ _)); refine blk_put (cs := #[.int .i64 ((rd_T64 s0_0 a1).f0.f0.f0), .int .i64 0, .int .i64 0, .int .i64 0, .int .i64 0, .int .i64 0, .int .i64 0]) ?_ 1 _ rfl; (with_reducible repeat (first | refine zD ?_ _ | refine zE ?_ | refine zF ?_ _)); refine blk_put (cs := #[.int .i64 0, .int .i64 0, .int .i64 0, .int .i64 0, .int .i64 0, .int .i64 0, .int .i64 0]) ?_ 0 _ rfl; (with_reducible repeat (first | refine zD ?_ _ | refine zE ?_ | refine zF ?_ _)); exact BK103.out⟩
     have n2_ : Aside0 (IsS97 w0 (((((((w11.setCell ⟨gb103, 0, none⟩ (.int .i64 ((rd_T64 s0_0 a1).f0.f0.f0))).setCell ⟨gb103, 1, none⟩ (.int .i64 ((rd_T64 s0_0 a1).f0.f0.f1))).setCell ⟨gb103, 2, none⟩ (.int .i64 ((rd_T64 s0_0 a1).f0.f1))).setCell ⟨gb103, 3, none⟩ (.int .i64 ((rd_T64 s0_0 a1).f1))).setCell ⟨gb103, 4, none⟩ (.int .i64 ((rd_T64 s0_0 a1).f2))).setCell ⟨gb103, 5, none⟩ (.int .i64 ((rd_T64 s0_0 a1).f3))).setCell ⟨gb103, 6, none⟩ (.int .i64 ((rd_T64 s0_0 a1).f4))) g s0_0 s0_1 s0_2) := ⟨by repeat (first | (with_reducible first | exact HI0.out | apply IsS97.alloc | apply IsS97.drewN | apply IsS97.drew | apply IsS97.set_1 | refine IsS97.far ?_ NB0_103.out _) | exact HI0.out)⟩
     have n3_ : Aside0 (Kept w (((((((w11.setCell ⟨gb103, 0, none⟩ (.int .i64 ((rd_T64 s0_0 a1).f0.f0.f0))).setCell ⟨gb103, 1, none⟩ (.int .i64 ((rd_T64 s0_0 a1).f0.f0.f1))).setCell ⟨gb103, 2, none⟩ (.int .i64 ((rd_T64 s0_0 a1).f0.f1))).setCell ⟨gb103, 3, none⟩ (.int .i64 ((rd_T64 s0_0 a1).f1))).setCell ⟨gb103, 4, none⟩ (.int .i64 ((rd_T64 s0_0 a1).f2))).setCell ⟨gb103, 5, none⟩ (.int .i64 ((rd_T64 s0_0 a1).f3))).setCell ⟨gb103, 6, none⟩ (.int .i64 ((rd_T64 s0_0 a1).f4))) (fun k_ => (P2_ k_) ∨ k_ = g)) := ⟨by repeat (first | (with_reducible first | exact HK.out | apply Kept.alloc | apply Kept.drewN | apply Kept.drew | refine Kept.setCell ?_ (.inl (.inr rfl)) _ | refine Kept.setCell ?_ (.inr GW103.out) _) | exact HK.out)⟩
     have n4_ : Aside0 (Below w0.heap.size w0 (((((((w11.setCell ⟨gb103, 0, none⟩ (.int .i64 ((rd_T64 s0_0 a1).f0.f0.f0))).setCell ⟨gb103, 1, none⟩ (.int .i64 ((rd_T64 s0_0 a1).f0.f0.f1))).setCell ⟨gb103, 2, none⟩ (.int .i64 ((rd_T64 s0_0 a1).f0.f1))).setCell ⟨gb103, 3, none⟩ (.int .i64 ((rd_T64 s0_0 a1).f1))).setCell ⟨gb103, 4, none⟩ (.int .i64 ((rd_T64 s0_0 a1).f2))).setCell ⟨gb103, 5, none⟩ (.int .i64 ((rd_T64 s0_0 a1).f3))).setCell ⟨gb103, 6, none⟩ (.int .i64 ((rd_T64 s0_0 a1).f4)))) := ⟨by repeat (first | (with_reducible first | exact HB.out | apply zG | apply zH | apply zI | refine zL ?_ (IsS97.ge HI0.out) | refine zL ?_ GE103.out) | exact HB.out)⟩
     (try clear HO2)
     (try clear BK103)
     (try clear HI0)
     (try clear HK)
     (try clear HB)
     generalize (((((((w11.setCell ⟨gb103, 0, none⟩ (.int .i64 ((rd_T64 s0_0 a1).f0.f0.f0))).setCell ⟨gb103, 1, none⟩ (.int .i64 ((rd_T64 s0_0 a1).f0.f0.f1))).setCell ⟨gb103, 2, none⟩ (.int .i64 ((rd_T64 s0_0 a1).f0.f1))).setCell ⟨gb103, 3, none⟩ (.int .i64 ((rd_T64 s0_0 a1).f1))).setCell ⟨gb103, 4, none⟩ (.int .i64 ((rd_T64 s0_0 a1).f2))).setCell ⟨gb103, 5, none⟩ (.int .i64 ((rd_T64 s0_0 a1).f3))).setCell ⟨gb103, 6, none⟩ (.int .i64 ((rd_T64 s0_0 a1).f4))) = w15 at n0_ n1_ n2_ n3_ n4_ ⊢
     have HO2 := n0_
     have BK103 := n1_
     have HI0 := n2_
     have HK := n3_
     have HB := n4_
     clear n0_ n1_ n2_ n3_ n4_
     have n0_ := zK (zC HO2.out)
     have n1_ := zK (zE BK103.out)
     have n2_ := zK (IsS97.drew HI0.out)
     have n3_ := zK (Kept.drew HK.out)
     have n4_ := zK (zI HB.out)
     clear HO2
     clear BK103
     clear HI0
     clear HK
     clear HB
     have HO2 := n0_
     have BK103 := n1_
     have HI0 := n2_
     have HK := n3_
     have HB := n4_
     clear n0_ n1_ n2_ n3_ n4_
     refine start_ (n := 14) (S := fun w' => w'.cell? ⟨gb103, 0, none⟩ = some (.int .i64 ((rd_T64 s0_0 a1).f0.f0.f0)) ∧ w'.cell? ⟨gb103, 1, none⟩ = some (.int .i64 ((rd_T64 s0_0 a1).f0.f0.f1)) ∧ w'.cell? ⟨gb103, 2, none⟩ = some (.int .i64 ((rd_T64 s0_0 a1).f0.f1)) ∧ w'.cell? ⟨gb103, 3, none⟩ = some (.int .i64 ((rd_T64 s0_0 a1).f1)) ∧ w'.cell? ⟨gb103, 4, none⟩ = some (.int .i64 ((rd_T64 s0_0 a1).f2)) ∧ w'.cell? ⟨gb103, 5, none⟩ = some (.int .i64 ((rd_T64 s0_0 a1).f3)) ∧ w'.cell? ⟨gb103, 6, none⟩ = some (.int .i64 ((rd_T64 s0_0 a1).f4))) (ds := []) #[false, false, false, false, false, false, false, false, false, false, false, false, false, false] (by kernel_rfl) rfl rfl ⟨(zQ BK103.out 0).trans rfl, (zQ BK103.out 1).trans rfl, (zQ BK103.out 2).trans rfl, (zQ BK103.out 3).trans rfl, (zQ BK103.out 4).trans rfl, (zQ BK103.out 5).trans rfl, (zQ BK103.out 6).trans rfl⟩ (fun hHeld => ?_); refine with_tabW tree_arena_items.tab4 tree_arena_items.bits4 (fun HT_ HW_ => ?_)
     generalize w15.drew = w16 at HO2 BK103 HI0 HK HB hHeld ⊢
     refine pure_ (i := 0) (N := some 19) (v := ?_) (a' := ?_) #[true, false, false, false, false, false, false, false, false, false, false, false, false, false] rfl rfl (any_of HT_.out (by kernel_rfl)) (fun _ _ _ h => h) (Or.inl ⟨by rfl, ?_⟩) ?_ ?_
     rotate_left
     ·intro w'
      go_simp
      with_reducible rfl
     rotate_left
     ·simp only [Act.put, zY, zZ, yA, i64_w, i32_w]
      rfl
     refine pure_ (i := 1) (N := some 20) (v := ?_) (a' := ?_) #[true, true, false, false, false, false, false, false, false, false, false, false, false, false] rfl rfl (any_of HT_.out (by kernel_rfl)) (fun _ _ _ h => h) (Or.inl ⟨by rfl, ?_⟩) ?_ ?_
     rotate_left
     ·intro w'
      go_simp
      with_reducible rfl
     rotate_left
     ·simp only [Act.put, zY, zZ, yA, i64_w, i32_w]
      rfl
     refine pure_ (i := 3) (N := some 22) (v := ?_) (a' := ?_) #[true, true, false, true, false, false, false, false, false, false, false, false, false, false] rfl rfl (any_of HT_.out (by kernel_rfl)) (fun _ _ _ h => h) (Or.inl ⟨by rfl, ?_⟩) ?_ ?_
     rotate_left
     ·intro w'
      go_simp
      with_reducible rfl
     rotate_left
     ·simp only [Act.put, zY, zZ, yA, i64_w, i32_w]
      rfl
     refine pure_ (i := 4) (N := some 23) (v := ?_) (a' := ?_) #[true, true, false, true, true, false, false, false, false, false, false, false, false, false] rfl rfl (any_of HT_.out (by kernel_rfl)) (fun _ _ _ h => h) (Or.inl ⟨by rfl, ?_⟩) ?_ ?_
     rotate_left
     ·intro w'
      go_simp
      with_reducible rfl
     rotate_left
     ·simp only [Act.put, zY, zZ, yA, i64_w, i32_w]
      rfl
     refine pure_ (i := 6) (N := some 25) (v := ?_) (a' := ?_) #[true, true, false, true, true, false, true, false, false, false, false, false, false, false] rfl rfl (any_of HT_.out (by kernel_rfl)) (fun _ _ _ h => h) (Or.inl ⟨by rfl, ?_⟩) ?_ ?_
     rotate_left
     ·intro w'
      go_simp
      with_reducible rfl
     rotate_left
     ·simp only [Act.put, zY, zZ, yA, i64_w, i32_w]
      rfl
     refine pure_ (i := 8) (N := some 27) (v := ?_) (a' := ?_) #[true, true, false, true, true, false, true, false, true, false, false, false, false, false] rfl rfl (any_of HT_.out (by kernel_rfl)) (fun _ _ _ h => h) (Or.inl ⟨by rfl, ?_⟩) ?_ ?_
     rotate_left
     ·intro w'
      go_simp
      with_reducible rfl
     rotate_left
     ·simp only [Act.put, zY, zZ, yA, i64_w, i32_w]
      rfl
     refine take_ (i := 2) (N := some 21) (v := ?_) (a' := ?_) #[true, true, true, true, true, false, true, false, true, false, false, false, false, false] rfl rfl (take_ofW HT_.out HW_.out (by kernel_rfl)) (fun _ _ _ h => h) (Or.inl ⟨by rfl, ?_⟩) hHeld ?_ ?_
     rotate_left
     ·rintro w' ⟨s0, s1, s2, s3, s4, s5, s6⟩
      go_simp
      with_reducible rfl
     rotate_left
     ·simp only [Act.put, zY, zZ, yA, i64_w, i32_w]
      rfl
     refine take_ (i := 5) (N := some 24) (v := ?_) (a' := ?_) #[true, true, true, true, true, true, true, false, true, false, false, false, false, false] rfl rfl (take_ofW HT_.out HW_.out (by kernel_rfl)) (fun _ _ _ h => h) (Or.inl ⟨by rfl, ?_⟩) hHeld ?_ ?_
     rotate_left
     ·rintro w' ⟨s0, s1, s2, s3, s4, s5, s6⟩
      go_simp
      with_reducible rfl
     rotate_left
     ·simp only [Act.put, zY, zZ, yA, i64_w, i32_w]
      rfl
     refine take_ (i := 9) (N := some 28) (v := ?_) (a' := ?_) #[true, true, true, true, true, true, true, false, true, true, false, false, false, false] rfl rfl (take_ofW HT_.out HW_.out (by kernel_rfl)) (fun _ _ _ h => h) (Or.inl ⟨by rfl, ?_⟩) hHeld ?_ ?_
     rotate_left
     ·rintro w' ⟨s0, s1, s2, s3, s4, s5, s6⟩
      go_simp
      with_reducible rfl
     rotate_left
     ·simp only [Act.put, zY, zZ, yA, i64_w, i32_w]
      rfl
     refine join_ (σ := Value × Value) 3 #[true, true, true, true, true, true, true, true, true, true, true, false, false, false] (fun s_ => [(26, s_.1), (29, s_.2)]) (fun s_ w' => (w'.cell? ⟨gb103, 0, none⟩ = some (.int .i64 ((rd_T64 s0_0 a1).f0.f0.f0)) ∧ w'.cell? ⟨gb103, 1, none⟩ = some (.int .i64 ((rd_T64 s0_0 a1).f0.f0.f1)) ∧ w'.cell? ⟨gb103, 2, none⟩ = some (.int .i64 ((rd_T64 s0_0 a1).f0.f1)) ∧ w'.cell? ⟨gb103, 3, none⟩ = some (.int .i64 ((rd_T64 s0_0 a1).f1)) ∧ w'.cell? ⟨gb103, 4, none⟩ = some (.int .i64 ((rd_T64 s0_0 a1).f2)) ∧ w'.cell? ⟨gb103, 5, none⟩ = some (.int .i64 ((rd_T64 s0_0 a1).f3)) ∧ w'.cell? ⟨gb103, 6, none⟩ = some (.int .i64 ((rd_T64 s0_0 a1).f4))) ∧ (Kd.R k50 50 w' w0.heap.size (fun k_ => (P2_ k_ ∨ w.heap.size ≤ k_) ∧ some k_ ≠ (s_.2 : Value).ownBlock) s_.1 t104) ∧ (Kd.R k50 50 w' w0.heap.size (fun k_ => (P2_ k_ ∨ w.heap.size ≤ k_) ∧ some k_ ≠ (s_.1 : Value).ownBlock) s_.2 y108) ∧ (w'.heap[gb103]? = some (.cells #[.int .i64 ((rd_T64 s0_0 a1).f0.f0.f0), .int .i64 ((rd_T64 s0_0 a1).f0.f0.f1), .int .i64 ((rd_T64 s0_0 a1).f0.f1), .int .i64 ((rd_T64 s0_0 a1).f1), .int .i64 ((rd_T64 s0_0 a1).f2), .int .i64 ((rd_T64 s0_0 a1).f3), .int .i64 ((rd_T64 s0_0 a1).f4)] 64 (0, 0))) ∧ (IsS97 w0 w' g s0_0 t107 s0_2) ∧ (Kept w w' (fun k_ => (P2_ k_) ∨ k_ = g)) ∧ (Below w0.heap.size w0 w')) ?_ ?_
     rotate_left
     ·intro hCont
      refine two_ (i := 7) (j := 10) (Ni := some 26) (Nj := some 29) #[true, true, true, true, true, true, true, true, true, true, false, false, false, false] #[true, true, true, true, true, true, true, false, true, true, true, false, false, false] rfl rfl rfl rfl (two_of HT_.out (by kernel_rfl)) (by decide) (by decide) (fun K hK => ?_) (fun K hK => ?_)
      ·skip
       refine goes_ Try.func46 (by kernel_rfl) rfl #[.pointer (some ⟨g, 0, none⟩), .int .i64 ((rd_T64 s0_0 a1).f1), .slice Ao14 l2.length co14] (by rfl) rfl rfl zt ?_
       with_reducible refine (ih k (by omega) g s0_0 s0_1 s0_2 ((rd_T64 s0_0 a1).f1) (fun k_ => some k_ = (.slice Ao14 l2.length co14 : Value).ownBlock) (.slice Ao14 l2.length co14) l2 t104 t107 w0 _ ?side1 ?side2 ?side3 A7.out).mono ?_
       (case side1 => repeat (first | (with_reducible first | exact HI0.out | apply IsS97.alloc | apply IsS97.drewN | apply IsS97.drew | apply IsS97.set_1 | refine IsS97.far ?_ NB0_103.out _) | exact HI0.out))
       (case side2 => repeat (first | (with_reducible first | exact HB.out | apply zG | apply zH | apply zI | refine zL ?_ (IsS97.ge HI0.out) | refine zL ?_ GE103.out) | exact HB.out))
       (case side3 => exact Kd.R_tight rfl HO2.out)
       rintro e w17 ⟨v105, rfl, ho0, hi, hb, hkp⟩
       refine ⟨_, rfl, ?_⟩
       have n0_ := zK (hi)
       have n1_ := zK (blk_kept (zb BK103.out) hkp (fun hs_ => Or.elim hs_ (fun hs_ => (fun e_ => (Kd.R_ne HO2.out BK103.out (by decide)) e_) hs_) (fun e_ => NB103_0.out e_)))
       have n2_ := zK (Kd.R_mono (ok' := fun k_ => (P2_ k_ ∨ w.heap.size ≤ k_)) ho0 (fun k_ hk_ => Or.elim hk_ (fun hs_ => (HO2.out.1 k_ (hs_).symm)) (fun hn_ => (.inr (Nat.le_trans (by first | exact HK.out.1 | exact (show Kept w _ (fun k_ => (P2_ k_) ∨ k_ = g) from by repeat (first | (with_reducible first | exact HK.out | apply Kept.alloc | apply Kept.drewN | apply Kept.drew | refine Kept.setCell ?_ (.inl (.inr rfl)) _ | refine Kept.setCell ?_ (.inr GW103.out) _) | exact HK.out)).1) hn_)))))
       have n3_ := zK (Kept.then_ (S := (fun k_ => (P2_ k_) ∨ k_ = g)) (by repeat (first | (with_reducible first | exact HK.out | apply Kept.alloc | apply Kept.drewN | apply Kept.drew | refine Kept.setCell ?_ (.inl (.inr rfl)) _ | refine Kept.setCell ?_ (.inr GW103.out) _) | exact HK.out)) hkp (fun k_ hs_ => Or.elim hs_ (fun hs_ => (fun e_ => Or.imp_left Or.inl ((HO2.out.1 k_ e_.symm))) hs_) (fun e_ => .inl (.inr e_))))
       have n4_ := zK (hb)
       clear HI0
       clear BK103
       clear HK
       clear HB
       clear HO2
       have HI0 := n0_
       have BK103 := n1_
       have HO106 := n2_
       have HK := n3_
       have HB := n4_
       clear n0_ n1_ n2_ n3_ n4_
       (try clear hb)
       (try clear hkp)
       (try clear ho0)
       refine hK.out _ _ ⟨(zQ BK103.out 0).trans rfl, (zQ BK103.out 1).trans rfl, (zQ BK103.out 2).trans rfl, (zQ BK103.out 3).trans rfl, (zQ BK103.out 4).trans rfl, (zQ BK103.out 5).trans rfl, (zQ BK103.out 6).trans rfl⟩ (fun hHeld => ?_)
       clear hK K
       refine norm_ (a' := ?_) ?_ ?_
       rotate_left
       ·show Act.put _ (some 26) _ = _
        simp only [Act.put, zY, zZ, yA, i64_w, i32_w]
        rfl
       refine one_ (i := 10) (N := some 29) #[true, true, true, true, true, true, true, true, true, true, true, false, false, false] rfl rfl (one_of HT_.out (by kernel_rfl)) (by decide) (fun K hK => ?_)
       refine Kd.R_lit_step k50 _ 50 ?hg (N := 29) ?hd (xs := ([(⟨(⟨(rd_T64 s0_0 a1).f0.f0.f0, (rd_T64 s0_0 a1).f0.f0.f1⟩ : S27), (rd_T64 s0_0 a1).f0.f1⟩ : S50)] : List (S50))) (inner := [.int .i64 ((rd_T64 s0_0 a1).f0.f0.f0), .int .i64 ((rd_T64 s0_0 a1).f0.f0.f1), .int .i64 ((rd_T64 s0_0 a1).f0.f1)]) (ok := fun _ => True) (okp := fun _ => True) ?hr ?hp (fun _ hk => hk) trivial (Below.refl _ _) (Nat.le_refl _) (by simp) ?_; (case hd => rfl); (case hg => rfl); (case hr => first | (go_simp; done) | (go_simp; rfl)); (case hp => exact (Reps.c3 (show Kd.M k50 _ _ _ (⟨(⟨(rd_T64 s0_0 a1).f0.f0.f0, (rd_T64 s0_0 a1).f0.f0.f1⟩ : S27), (rd_T64 s0_0 a1).f0.f1⟩ : S50) [.int .i64 ((rd_T64 s0_0 a1).f0.f0.f0), .int .i64 ((rd_T64 s0_0 a1).f0.f0.f1), .int .i64 ((rd_T64 s0_0 a1).f0.f1)] from (k50_mkM _ _ _ (⟨(⟨(rd_T64 s0_0 a1).f0.f0.f0, (rd_T64 s0_0 a1).f0.f0.f1⟩ : S27), (rd_T64 s0_0 a1).f0.f1⟩ : S50) )) (Reps.none _ _)))
       intro v109 w18 ho19 hb hg_ hnew_
       clear hg_ hnew_
       (first | rw [← Ny108.out] at ho19 | (simp only [Int.reduceToNat] at ho19; rw [← Ny108.out] at ho19))
       have n0_ := zK (yC (zr HO106.out) (Kd.R_base ho19) hb)
       have n1_ := zK (zV (zW (Kd.R_newM (M := fun k_ => (P2_ k_ ∨ w.heap.size ≤ k_)) ho19 (by first | exact HK.out.1 | exact (show Kept w _ (fun k_ => (P2_ k_) ∨ k_ = g) from by repeat (first | (with_reducible first | exact HK.out | apply Kept.alloc | apply Kept.drewN | apply Kept.drew | refine Kept.setCell ?_ (.inl (.inr rfl)) _ | refine Kept.setCell ?_ (.inr GW103.out) _) | exact HK.out)).1) (fun k_ h_ => .inr h_)) (yB (zr HO106.out))) (yG (by repeat (first | (with_reducible first | exact HB.out | apply zG | apply zH | apply zI | refine zL ?_ (IsS97.ge HI0.out) | refine zL ?_ GE103.out) | exact HB.out))))
       have n2_ := zK (IsS97.below (by repeat (first | (with_reducible first | exact HI0.out | apply IsS97.alloc | apply IsS97.drewN | apply IsS97.drew | apply IsS97.set_1 | refine IsS97.far ?_ NB0_103.out _) | exact HI0.out)) hb)
       have n3_ := zK (zP (g := gb103) (o := .cells #[.int .i64 ((rd_T64 s0_0 a1).f0.f0.f0), .int .i64 ((rd_T64 s0_0 a1).f0.f0.f1), .int .i64 ((rd_T64 s0_0 a1).f0.f1), .int .i64 ((rd_T64 s0_0 a1).f1), .int .i64 ((rd_T64 s0_0 a1).f2), .int .i64 ((rd_T64 s0_0 a1).f3), .int .i64 ((rd_T64 s0_0 a1).f4)] 64 (0, 0)) (zb BK103.out) hb)
       have n4_ := zK (Kept.below (S := (fun k_ => (P2_ k_) ∨ k_ = g)) (by repeat (first | (with_reducible first | exact HK.out | apply Kept.alloc | apply Kept.drewN | apply Kept.drew | refine Kept.setCell ?_ (.inl (.inr rfl)) _ | refine Kept.setCell ?_ (.inr GW103.out) _) | exact HK.out)) hb)
       have n5_ := zK (yF (by repeat (first | (with_reducible first | exact HB.out | apply zG | apply zH | apply zI | refine zL ?_ (IsS97.ge HI0.out) | refine zL ?_ GE103.out) | exact HB.out)) hb)
       clear HO106
       clear HI0
       clear BK103
       clear HK
       clear HB
       have HO106 := n0_
       have HO110 := n1_
       have HI0 := n2_
       have BK103 := n3_
       have HK := n4_
       have HB := n5_
       clear n0_ n1_ n2_ n3_ n4_ n5_
       clear hb ho19
       refine hK.out _ _ ⟨(zQ BK103.out 0).trans rfl, (zQ BK103.out 1).trans rfl, (zQ BK103.out 2).trans rfl, (zQ BK103.out 3).trans rfl, (zQ BK103.out 4).trans rfl, (zQ BK103.out 5).trans rfl, (zQ BK103.out 6).trans rfl⟩ (fun hHeld => ?_)
       clear hK K
       refine norm_ (a' := ?_) ?_ ?_
       rotate_left
       ·show Act.put _ (some 29) _ = _
        simp only [Act.put, zY, zZ, yA, i64_w, i32_w]
        rfl
       exact norm_ (by simp only [putAll, Act.put, zY, zZ, yA]) (hCont (v105, v109) _ ⟨hHeld, (zr HO106.out), (by (with_reducible repeat (first | apply zA | apply zB | apply zC)); exact Kd.R_mono HO110.out (fun _ hk => ⟨hk.1.1, hk.2⟩)), (zb BK103.out), (by repeat (first | (with_reducible first | exact HI0.out | apply IsS97.alloc | apply IsS97.drewN | apply IsS97.drew | apply IsS97.set_1 | refine IsS97.far ?_ NB0_103.out _) | exact HI0.out)), (by repeat (first | (with_reducible first | exact HK.out | apply Kept.alloc | apply Kept.drewN | apply Kept.drew | refine Kept.setCell ?_ (.inl (.inr rfl)) _ | refine Kept.setCell ?_ (.inr GW103.out) _) | exact HK.out)), (by repeat (first | (with_reducible first | exact HB.out | apply zG | apply zH | apply zI | refine zL ?_ (IsS97.ge HI0.out) | refine zL ?_ GE103.out) | exact HB.out))⟩)
      ·skip
       refine Kd.R_lit_step k50 _ 50 ?hg (N := 29) ?hd (xs := ([(⟨(⟨(rd_T64 s0_0 a1).f0.f0.f0, (rd_T64 s0_0 a1).f0.f0.f1⟩ : S27), (rd_T64 s0_0 a1).f0.f1⟩ : S50)] : List (S50))) (inner := [.int .i64 ((rd_T64 s0_0 a1).f0.f0.f0), .int .i64 ((rd_T64 s0_0 a1).f0.f0.f1), .int .i64 ((rd_T64 s0_0 a1).f0.f1)]) (ok := fun _ => True) (okp := fun _ => True) ?hr ?hp (fun _ hk => hk) trivial (Below.refl _ _) (Nat.le_refl _) (by simp) ?_; (case hd => rfl); (case hg => rfl); (case hr => first | (go_simp; done) | (go_simp; rfl)); (case hp => exact (Reps.c3 (show Kd.M k50 _ _ _ (⟨(⟨(rd_T64 s0_0 a1).f0.f0.f0, (rd_T64 s0_0 a1).f0.f0.f1⟩ : S27), (rd_T64 s0_0 a1).f0.f1⟩ : S50) [.int .i64 ((rd_T64 s0_0 a1).f0.f0.f0), .int .i64 ((rd_T64 s0_0 a1).f0.f0.f1), .int .i64 ((rd_T64 s0_0 a1).f0.f1)] from (k50_mkM _ _ _ (⟨(⟨(rd_T64 s0_0 a1).f0.f0.f0, (rd_T64 s0_0 a1).f0.f0.f1⟩ : S27), (rd_T64 s0_0 a1).f0.f1⟩ : S50) )) (Reps.none _ _)))
       intro v109 w17 ho18 hb hg_ hnew_
       clear hg_ hnew_
       (first | rw [← Ny108.out] at ho18 | (simp only [Int.reduceToNat] at ho18; rw [← Ny108.out] at ho18))
       have n0_ := zK (yC (zr HO2.out) (Kd.R_base ho18) hb)
       have n1_ := zK (zV (zW (Kd.R_newM (M := fun k_ => (P2_ k_ ∨ w.heap.size ≤ k_)) ho18 (by first | exact HK.out.1 | exact (show Kept w _ (fun k_ => (P2_ k_) ∨ k_ = g) from by repeat (first | (with_reducible first | exact HK.out | apply Kept.alloc | apply Kept.drewN | apply Kept.drew | refine Kept.setCell ?_ (.inl (.inr rfl)) _ | refine Kept.setCell ?_ (.inr GW103.out) _) | exact HK.out)).1) (fun k_ h_ => .inr h_)) (yB (zr HO2.out))) (yG (by repeat (first | (with_reducible first | exact HB.out | apply zG | apply zH | apply zI | refine zL ?_ (IsS97.ge HI0.out) | refine zL ?_ GE103.out) | exact HB.out))))
       have n2_ := zK (IsS97.below (by repeat (first | (with_reducible first | exact HI0.out | apply IsS97.alloc | apply IsS97.drewN | apply IsS97.drew | apply IsS97.set_1 | refine IsS97.far ?_ NB0_103.out _) | exact HI0.out)) hb)
       have n3_ := zK (zP (g := gb103) (o := .cells #[.int .i64 ((rd_T64 s0_0 a1).f0.f0.f0), .int .i64 ((rd_T64 s0_0 a1).f0.f0.f1), .int .i64 ((rd_T64 s0_0 a1).f0.f1), .int .i64 ((rd_T64 s0_0 a1).f1), .int .i64 ((rd_T64 s0_0 a1).f2), .int .i64 ((rd_T64 s0_0 a1).f3), .int .i64 ((rd_T64 s0_0 a1).f4)] 64 (0, 0)) (zb BK103.out) hb)
       have n4_ := zK (Kept.below (S := (fun k_ => (P2_ k_) ∨ k_ = g)) (by repeat (first | (with_reducible first | exact HK.out | apply Kept.alloc | apply Kept.drewN | apply Kept.drew | refine Kept.setCell ?_ (.inl (.inr rfl)) _ | refine Kept.setCell ?_ (.inr GW103.out) _) | exact HK.out)) hb)
       have n5_ := zK (yF (by repeat (first | (with_reducible first | exact HB.out | apply zG | apply zH | apply zI | refine zL ?_ (IsS97.ge HI0.out) | refine zL ?_ GE103.out) | exact HB.out)) hb)
       clear HO2
       clear HI0
       clear BK103
       clear HK
       clear HB
       have HO2 := n0_
       have HO110 := n1_
       have HI0 := n2_
       have BK103 := n3_
       have HK := n4_
       have HB := n5_
       clear n0_ n1_ n2_ n3_ n4_ n5_
       clear hb ho18
       refine hK.out _ _ ⟨(zQ BK103.out 0).trans rfl, (zQ BK103.out 1).trans rfl, (zQ BK103.out 2).trans rfl, (zQ BK103.out 3).trans rfl, (zQ BK103.out 4).trans rfl, (zQ BK103.out 5).trans rfl, (zQ BK103.out 6).trans rfl⟩ (fun hHeld => ?_)
       clear hK K
       refine norm_ (a' := ?_) ?_ ?_
       rotate_left
       ·show Act.put _ (some 29) _ = _
        simp only [Act.put, zY, zZ, yA, i64_w, i32_w]
        rfl
       refine one_ (i := 7) (N := some 26) #[true, true, true, true, true, true, true, true, true, true, true, false, false, false] rfl rfl (one_of HT_.out (by kernel_rfl)) (by decide) (fun K hK => ?_)
       refine goes_ Try.func46 (by kernel_rfl) rfl #[.pointer (some ⟨g, 0, none⟩), .int .i64 ((rd_T64 s0_0 a1).f1), .slice Ao14 l2.length co14] (by rfl) rfl rfl zt ?_
       with_reducible refine (ih k (by omega) g s0_0 s0_1 s0_2 ((rd_T64 s0_0 a1).f1) (fun k_ => some k_ = (.slice Ao14 l2.length co14 : Value).ownBlock) (.slice Ao14 l2.length co14) l2 t104 t107 w0 _ ?side1 ?side2 ?side3 A7.out).mono ?_
       (case side1 => repeat (first | (with_reducible first | exact HI0.out | apply IsS97.alloc | apply IsS97.drewN | apply IsS97.drew | apply IsS97.set_1 | refine IsS97.far ?_ NB0_103.out _) | exact HI0.out))
       (case side2 => repeat (first | (with_reducible first | exact HB.out | apply zG | apply zH | apply zI | refine zL ?_ (IsS97.ge HI0.out) | refine zL ?_ GE103.out) | exact HB.out))
       (case side3 => exact Kd.R_tight rfl HO2.out)
       rintro e w19 ⟨v105, rfl, ho0, hi, hb, hkp⟩
       refine ⟨_, rfl, ?_⟩
       have n0_ := zK (hi)
       have n1_ := zK (blk_kept (zb BK103.out) hkp (fun hs_ => Or.elim hs_ (fun hs_ => (fun e_ => (Kd.R_ne HO2.out BK103.out (by decide)) e_) hs_) (fun e_ => NB103_0.out e_)))
       have n2_ := zK (Kd.R_mono (ok' := fun k_ => (P2_ k_ ∨ w.heap.size ≤ k_) ∧ some k_ ≠ (v105 : Value).ownBlock) (Kd.R_keptB ((IsS97.apart HI0.out HO110.out (by decide))) hkp (fun k_ hk_ hs_ => Or.elim hs_ (fun hs_ => (hk_.1.2) hs_) (fun e_ => (hk_.2) e_))) (fun k_ hk_ => ⟨hk_.1.1.1.1, fun e_ => Or.elim (ho0.1 k_ e_.symm) (fun hs_ => by first | exact hk_.2.1 hs_ | exact hk_.2.1 (.inl hs_)) (fun hn_ => Nat.not_le.2 hk_.2.2 hn_)⟩))
       have n3_ := zK (Kd.R_mono (ok' := fun k_ => (P2_ k_ ∨ w.heap.size ≤ k_) ∧ some k_ ≠ (v109 : Value).ownBlock) ho0 (fun k_ hk_ => ⟨Or.elim hk_ (fun hs_ => (HO2.out.1 k_ (hs_).symm).1) (fun hn_ => (.inr (Nat.le_trans (by first | exact HK.out.1 | exact (show Kept w _ (fun k_ => (P2_ k_) ∨ k_ = g) from by repeat (first | (with_reducible first | exact HK.out | apply Kept.alloc | apply Kept.drewN | apply Kept.drew | refine Kept.setCell ?_ (.inl (.inr rfl)) _ | refine Kept.setCell ?_ (.inr GW103.out) _) | exact HK.out)).1) hn_))), Or.elim hk_ (fun hs_ => fun e_ => ((((IsS97.apart HI0.out HO110.out (by decide))).1 k_ e_.symm).1.2) hs_) (fun hn_ => (Kd.fresh' (yB (zr HO110.out)) k_ hn_))⟩))
       have n4_ := zK (Kept.then_ (S := (fun k_ => (P2_ k_) ∨ k_ = g)) (by repeat (first | (with_reducible first | exact HK.out | apply Kept.alloc | apply Kept.drewN | apply Kept.drew | refine Kept.setCell ?_ (.inl (.inr rfl)) _ | refine Kept.setCell ?_ (.inr GW103.out) _) | exact HK.out)) hkp (fun k_ hs_ => Or.elim hs_ (fun hs_ => (fun e_ => Or.imp_left Or.inl ((HO2.out.1 k_ e_.symm).1)) hs_) (fun e_ => .inl (.inr e_))))
       have n5_ := zK (hb)
       clear HI0
       clear BK103
       clear HO110
       clear HK
       clear HB
       clear HO2
       have HI0 := n0_
       have BK103 := n1_
       have HO110 := n2_
       have HO106 := n3_
       have HK := n4_
       have HB := n5_
       clear n0_ n1_ n2_ n3_ n4_ n5_
       (try clear hb)
       (try clear hkp)
       (try clear ho0)
       refine hK.out _ _ ⟨(zQ BK103.out 0).trans rfl, (zQ BK103.out 1).trans rfl, (zQ BK103.out 2).trans rfl, (zQ BK103.out 3).trans rfl, (zQ BK103.out 4).trans rfl, (zQ BK103.out 5).trans rfl, (zQ BK103.out 6).trans rfl⟩ (fun hHeld => ?_)
       clear hK K
       refine norm_ (a' := ?_) ?_ ?_
       rotate_left
       ·show Act.put _ (some 26) _ = _
        simp only [Act.put, zY, zZ, yA, i64_w, i32_w]
        rfl
       exact norm_ (by simp only [putAll, Act.put, zY, zZ, yA]) (hCont (v105, v109) _ ⟨hHeld, (zr HO106.out), (zr HO110.out), (zb BK103.out), (by repeat (first | (with_reducible first | exact HI0.out | apply IsS97.alloc | apply IsS97.drewN | apply IsS97.drew | apply IsS97.set_1 | refine IsS97.far ?_ NB0_103.out _) | exact HI0.out)), (by repeat (first | (with_reducible first | exact HK.out | apply Kept.alloc | apply Kept.drewN | apply Kept.drew | refine Kept.setCell ?_ (.inl (.inr rfl)) _ | refine Kept.setCell ?_ (.inr GW103.out) _) | exact HK.out)), (by repeat (first | (with_reducible first | exact HB.out | apply zG | apply zH | apply zI | refine zL ?_ (IsS97.ge HI0.out) | refine zL ?_ GE103.out) | exact HB.out))⟩)
     rintro ⟨v105, v109⟩ w20 ⟨hS_, h0_, h1_, h2_, h3_, h4_, h5_⟩
     have n0_ : Aside0 (Kd.R k50 50 w20 w0.heap.size (fun k_ => (P2_ k_ ∨ w.heap.size ≤ k_) ∧ some k_ ≠ (v109 : Value).ownBlock) v105 t104) := ⟨h0_⟩
     have n1_ : Aside0 (Kd.R k50 50 w20 w0.heap.size (fun k_ => (P2_ k_ ∨ w.heap.size ≤ k_) ∧ some k_ ≠ (v105 : Value).ownBlock) v109 y108) := ⟨h1_⟩
     have n2_ : Aside0 (w20.heap[gb103]? = some (.cells #[.int .i64 ((rd_T64 s0_0 a1).f0.f0.f0), .int .i64 ((rd_T64 s0_0 a1).f0.f0.f1), .int .i64 ((rd_T64 s0_0 a1).f0.f1), .int .i64 ((rd_T64 s0_0 a1).f1), .int .i64 ((rd_T64 s0_0 a1).f2), .int .i64 ((rd_T64 s0_0 a1).f3), .int .i64 ((rd_T64 s0_0 a1).f4)] 64 (0, 0))) := ⟨h2_⟩
     have n3_ : Aside0 (IsS97 w0 w20 g s0_0 t107 s0_2) := ⟨h3_⟩
     have n4_ : Aside0 (Kept w w20 (fun k_ => (P2_ k_) ∨ k_ = g)) := ⟨h4_⟩
     have n5_ : Aside0 (Below w0.heap.size w0 w20) := ⟨h5_⟩
     clear HO2
     clear BK103
     clear HI0
     clear HK
     clear HB
     clear h0_ h1_ h2_ h3_ h4_ h5_
     have HO106 := n0_
     have HO110 := n1_
     have BK103 := n2_
     have HI0 := n3_
     have HK := n4_
     have HB := n5_
     clear n0_ n1_ n2_ n3_ n4_ n5_
     have hHeld : w20.cell? ⟨gb103, 0, none⟩ = some (.int .i64 ((rd_T64 s0_0 a1).f0.f0.f0)) ∧ w20.cell? ⟨gb103, 1, none⟩ = some (.int .i64 ((rd_T64 s0_0 a1).f0.f0.f1)) ∧ w20.cell? ⟨gb103, 2, none⟩ = some (.int .i64 ((rd_T64 s0_0 a1).f0.f1)) ∧ w20.cell? ⟨gb103, 3, none⟩ = some (.int .i64 ((rd_T64 s0_0 a1).f1)) ∧ w20.cell? ⟨gb103, 4, none⟩ = some (.int .i64 ((rd_T64 s0_0 a1).f2)) ∧ w20.cell? ⟨gb103, 5, none⟩ = some (.int .i64 ((rd_T64 s0_0 a1).f3)) ∧ w20.cell? ⟨gb103, 6, none⟩ = some (.int .i64 ((rd_T64 s0_0 a1).f4)) := hS_
     obtain ⟨Ao22, co22, eo22⟩ := yE HO110.out
     (first | subst eo22 | (injection eo22 with f1_ f2_ f3_; have f4_ := f1_.symm; have f5_ := f3_.symm; clear f1_ f2_ f3_; subst f4_; subst f5_))
     refine norm_ (a' := ?_) ?_ ?_
     rotate_left
     ·simp only [putAll, Act.put, zY, zZ, yA]
      rfl
     refine one_ (i := 11) (N := some 30) #[true, true, true, true, true, true, true, true, true, true, true, true, false, false] rfl rfl (one_of HT_.out (by kernel_rfl)) (by decide) (fun K hK => ?_)
     refine Kd.R_append_rows_step k50 (w0 := w0) w0.heap.size (by rfl) (.tmp 26) (.tmp 29) 29 50 (.agg #[(.int .i64 0), (.int .i64 0), (.int .i64 0)]) 24 rfl Try.underlying29 info50 rfl (by decide) (by omega) v105 t104 y108 _ _ _ (fun k_ => (P2_ k_ ∨ w.heap.size ≤ k_) ∧ some k_ ≠ (.slice Ao22 y108.length co22 : Value).ownBlock) (fun _ => False) rfl rfl ?aO ?aR (fun _ _ h => h) (fun _ h => h.elim) ?aF ?aB ?aS ?aL ?_
     (case aR => exact zc (zX HO110.out).2.2)
     (case aB => exact (by repeat (first | (with_reducible first | exact HB.out | apply zG | apply zH | apply zI | refine zL ?_ (IsS97.ge HI0.out) | refine zL ?_ GE103.out) | exact HB.out)))
     (case aF => exact (fun k_ hk => ⟨(.inr (Nat.le_trans (by first | exact HK.out.1 | exact (show Kept w _ (fun k_ => (P2_ k_) ∨ k_ = g) from by repeat (first | (with_reducible first | exact HK.out | apply Kept.alloc | apply Kept.drewN | apply Kept.drew | refine Kept.setCell ?_ (.inl (.inr rfl)) _ | refine Kept.setCell ?_ (.inr GW103.out) _) | exact HK.out)).1) hk)), Kd.fresh' (yB (zr HO110.out)) k_ hk⟩))
     (case aO => exact (zr HO106.out))
     (case aS => exact (yG (by repeat (first | (with_reducible first | exact HB.out | apply zG | apply zH | apply zI | refine zL ?_ (IsS97.ge HI0.out) | refine zL ?_ GE103.out) | exact HB.out))))
     (case aL => have := LMc8.out; omega)
     intro v112 w21 ho hb hg hat
     rw [← Ny111.out] at ho
     have n0_ := zK (IsS97.grown (by repeat (first | (with_reducible first | exact HI0.out | apply IsS97.alloc | apply IsS97.drewN | apply IsS97.drew | apply IsS97.set_1 | refine IsS97.far ?_ NB0_103.out _) | exact HI0.out)) hg (IsS97.own_ne HI0.out HO106.out (by decide)))
     have n1_ := zK (blk_grown (g := gb103) (o := .cells #[.int .i64 ((rd_T64 s0_0 a1).f0.f0.f0), .int .i64 ((rd_T64 s0_0 a1).f0.f0.f1), .int .i64 ((rd_T64 s0_0 a1).f0.f1), .int .i64 ((rd_T64 s0_0 a1).f1), .int .i64 ((rd_T64 s0_0 a1).f2), .int .i64 ((rd_T64 s0_0 a1).f3), .int .i64 ((rd_T64 s0_0 a1).f4)] 64 (0, 0)) (zb BK103.out) hg (Kd.R_ne HO106.out BK103.out (by decide)))
     have n2_ := zK (Kd.R_after (ok := (fun k_ => (P2_ k_ ∨ w.heap.size ≤ k_))) (zr HO110.out) hg hat)
     have n3_ := zK (hb)
     have n4_ := zK (Kept.of_grown (S := (fun k_ => (P2_ k_) ∨ k_ = g)) hg (by repeat (first | (with_reducible first | exact HK.out | apply Kept.alloc | apply Kept.drewN | apply Kept.drew | refine Kept.setCell ?_ (.inl (.inr rfl)) _ | refine Kept.setCell ?_ (.inr GW103.out) _) | exact HK.out)) (fun k_ e_ => Or.imp_left Or.inl ((HO106.out.1 k_ e_).1)))
     have n5_ := zK (ho)
     clear HI0
     clear BK103
     clear HO110
     clear HB
     clear HK
     clear HO106
     have HI0 := n0_
     have BK103 := n1_
     have HO110 := n2_
     have HB := n3_
     have HK := n4_
     have HO113 := n5_
     clear n0_ n1_ n2_ n3_ n4_ n5_
     clear ho hb hg hat
     obtain ⟨Ao23, co23, eo23⟩ := yE HO113.out
     (first | subst eo23 | (injection eo23 with f1_ f2_ f3_; have f4_ := f1_.symm; have f5_ := f3_.symm; clear f1_ f2_ f3_; subst f4_; subst f5_))
     refine hK.out _ _ ⟨(zQ BK103.out 0).trans rfl, (zQ BK103.out 1).trans rfl, (zQ BK103.out 2).trans rfl, (zQ BK103.out 3).trans rfl, (zQ BK103.out 4).trans rfl, (zQ BK103.out 5).trans rfl, (zQ BK103.out 6).trans rfl⟩ (fun hHeld => ?_)
     clear hK K
     refine norm_ (a' := ?_) ?_ ?_
     rotate_left
     ·show Act.put _ (some 30) _ = _
      simp only [Act.put, zY, zZ, yA, i64_w, i32_w]
      rfl
     refine one_ (i := 12) (N := some 31) #[true, true, true, true, true, true, true, true, true, true, true, true, true, false] rfl rfl (one_of HT_.out (by kernel_rfl)) (by decide) (fun K hK => ?_)
     refine goes_ Try.func46 (by kernel_rfl) rfl #[.pointer (some ⟨g, 0, none⟩), .int .i64 ((rd_T64 s0_0 a1).f2), .slice Ao23 y111.length co23] (by rfl) rfl rfl zt ?_
     with_reducible refine (ih k (by omega) g s0_0 t107 s0_2 ((rd_T64 s0_0 a1).f2) (fun k_ => some k_ = (.slice Ao23 y111.length co23 : Value).ownBlock) (.slice Ao23 y111.length co23) y111 t114 t117 w0 _ ?side1 ?side2 ?side3 A9.out).mono ?_
     (case side1 => repeat (first | (with_reducible first | exact HI0.out | apply IsS97.alloc | apply IsS97.drewN | apply IsS97.drew | apply IsS97.set_1 | refine IsS97.far ?_ NB0_103.out _) | exact HI0.out))
     (case side2 => repeat (first | (with_reducible first | exact HB.out | apply zG | apply zH | apply zI | refine zL ?_ (IsS97.ge HI0.out) | refine zL ?_ GE103.out) | exact HB.out))
     (case side3 => exact Kd.R_tight rfl HO113.out)
     rintro e w24 ⟨v115, rfl, ho0, hi, hb, hkp⟩
     refine ⟨_, rfl, ?_⟩
     have n0_ := zK (hi)
     have n1_ := zK (blk_kept (zb BK103.out) hkp (fun hs_ => Or.elim hs_ (fun hs_ => (fun e_ => (Kd.R_ne HO113.out BK103.out (by decide)) e_) hs_) (fun e_ => NB103_0.out e_)))
     have n2_ := zK (Kd.R_mono (ok' := fun k_ => (P2_ k_ ∨ w.heap.size ≤ k_) ∧ some k_ ≠ (v115 : Value).ownBlock) (Kd.R_keptB ((IsS97.apart HI0.out HO110.out (by decide))) hkp (fun k_ hk_ hs_ => Or.elim hs_ (fun hs_ => (hk_.1.2) hs_) (fun e_ => (hk_.2) e_))) (fun k_ hk_ => ⟨hk_.1.1.1, fun e_ => Or.elim (ho0.1 k_ e_.symm) (fun hs_ => by first | exact hk_.2.1 hs_ | exact hk_.2.1 (.inl hs_)) (fun hn_ => Nat.not_le.2 hk_.2.2 hn_)⟩))
     have n3_ := zK (Kd.R_mono (ok' := fun k_ => (P2_ k_ ∨ w.heap.size ≤ k_) ∧ some k_ ≠ (.slice Ao22 y108.length co22 : Value).ownBlock) ho0 (fun k_ hk_ => ⟨Or.elim hk_ (fun hs_ => (HO113.out.1 k_ (hs_).symm).1) (fun hn_ => (.inr (Nat.le_trans (by first | exact HK.out.1 | exact (show Kept w _ (fun k_ => (P2_ k_) ∨ k_ = g) from by repeat (first | (with_reducible first | exact HK.out | apply Kept.alloc | apply Kept.drewN | apply Kept.drew | refine Kept.setCell ?_ (.inl (.inr rfl)) _ | refine Kept.setCell ?_ (.inr GW103.out) _) | exact HK.out)).1) hn_))), Or.elim hk_ (fun hs_ => fun e_ => ((((IsS97.apart HI0.out HO110.out (by decide))).1 k_ e_.symm).1.2) hs_) (fun hn_ => (Kd.fresh' (yB (zr HO110.out)) k_ hn_))⟩))
     have n4_ := zK (Kept.then_ (S := (fun k_ => (P2_ k_) ∨ k_ = g)) (by repeat (first | (with_reducible first | exact HK.out | apply Kept.alloc | apply Kept.drewN | apply Kept.drew | refine Kept.setCell ?_ (.inl (.inr rfl)) _ | refine Kept.setCell ?_ (.inr GW103.out) _) | exact HK.out)) hkp (fun k_ hs_ => Or.elim hs_ (fun hs_ => (fun e_ => Or.imp_left Or.inl ((HO113.out.1 k_ e_.symm).1)) hs_) (fun e_ => .inl (.inr e_))))
     have n5_ := zK (hb)
     clear HI0
     clear BK103
     clear HO110
     clear HK
     clear HB
     clear HO113
     have HI0 := n0_
     have BK103 := n1_
     have HO110 := n2_
     have HO116 := n3_
     have HK := n4_
     have HB := n5_
     clear n0_ n1_ n2_ n3_ n4_ n5_
     (try clear hb)
     (try clear hkp)
     (try clear ho0)
     refine hK.out _ _ ⟨(zQ BK103.out 0).trans rfl, (zQ BK103.out 1).trans rfl, (zQ BK103.out 2).trans rfl, (zQ BK103.out 3).trans rfl, (zQ BK103.out 4).trans rfl, (zQ BK103.out 5).trans rfl, (zQ BK103.out 6).trans rfl⟩ (fun hHeld => ?_)
     clear hK K
     refine norm_ (a' := ?_) ?_ ?_
     rotate_left
     ·show Act.put _ (some 31) _ = _
      simp only [Act.put, zY, zZ, yA, i64_w, i32_w]
      rfl
     refine pure_ (i := 13) (N := some 6) (v := ?_) (a' := ?_) #[true, true, true, true, true, true, true, true, true, true, true, true, true, true] rfl rfl (any_of HT_.out (by kernel_rfl)) (fun _ _ _ h => h) (Or.inl ⟨by rfl, ?_⟩) ?_ ?_
     rotate_left
     ·intro w'
      go_simp
      with_reducible rfl
     rotate_left
     ·simp only [Act.put, zY, zZ, yA, i64_w, i32_w]
      rfl
     refine done_ (done_of HT_.out (by kernel_rfl)) ?_
     try go_wp2
     go_ret
     exact ⟨_, by first | rfl | (simp [errW_none, errW_some] <;> rfl) | (simp [*, errW_none, errW_some] <;> rfl), by (with_reducible repeat (first | apply zA | apply zB | apply zC)); exact Kd.R_mono HO116.out (fun _ hk => hk.1), by repeat (first | (with_reducible first | exact HI0.out | apply IsS97.alloc | apply IsS97.drewN | apply IsS97.drew | apply IsS97.set_1 | refine IsS97.far ?_ NB0_103.out _) | exact HI0.out), by repeat (first | (with_reducible first | exact HB.out | apply zG | apply zH | apply zI | refine zL ?_ (IsS97.ge HI0.out) | refine zL ?_ GE103.out) | exact HB.out), by repeat (first | (with_reducible first | exact HK.out | apply Kept.alloc | apply Kept.drewN | apply Kept.drew | refine Kept.setCell ?_ (.inl (.inr rfl)) _ | refine Kept.setCell ?_ (.inr GW103.out) _) | exact HK.out)⟩
    ·rw [if_neg c8] at H
     exact absurd H (by simp)
   ·rw [if_neg c6] at H
    exact absurd H (by simp)
  ·rw [if_neg c5] at H
   exact absurd H (by simp)
end Go.Proofs.Ytgkjpffbgnljeaa.QI
/- When a tree may be, plain; arena.items by its printed contract; slices.Clone of nodes and numbers; tree.own. -/
set_option linter.unusedVariables false
set_option linter.unusedSimpArgs false
namespace Go.Proofs.Ytgkjpffbgnljeaa.Man
open Go.RowKit Go.Proofs.Ytgkjpffbgnljeaa.QT Go.Proofs.Ytgkjpffbgnljeaa.TreeM Go.Proofs.YtgkjpffbgnljeaaW.PrintWords Go.Proofs.YtgkjpffbgnljeaaW.PrintLast Go.Proofs.YtgkjpffbgnljeaaW.PrintMore
abbrev It := S50
def toI (x : Itm) : It := ⟨⟨x.fr, x.to_⟩, x.id⟩
def ofI (x : It) : Itm := ⟨x.f0.f0, x.f0.f1, x.f1⟩
structure IsT (a : Cells) (nn : Nat) (root : Int) (fr : List Int) (t : T) : Prop where
 size : nn ≤ 32
 good : Good a nn (fun _ => false) root t
 free : ∃ S', freeF a nn (plusT (fun _ => false) t) fr = some S' ∧ ∀ p, p < nn → S' p = true
 row : Row (items t)
theorem IsT.one {a : Cells} {nn : Nat} {root : Int} {fr : List Int} {t s : T} (h : IsT a nn root fr t) (g : IsT a nn root fr s) : t = s := h.good.one g.good
noncomputable def mayT (a : Cells) (nn : Nat) (root : Int) (fr : List Int) : Bool := open Classical in decide (∃ t, IsT a nn root fr t)
theorem mayT_true {a : Cells} {nn : Nat} {root : Int} {fr : List Int} : mayT a nn root fr = true ↔ ∃ t, IsT a nn root fr t := by unfold mayT; simp
theorem mayT_false {a : Cells} {nn : Nat} {root : Int} {fr : List Int} : mayT a nn root fr = false ↔ ∀ t, ¬ IsT a nn root fr t := by unfold mayT; simp
theorem items_f (ns : List Nd) (fr : List Int) (root : Int) : ∀ (t : T) (i : Int) (out : List It) (k : Nat), Hang (cellN ns) t i → Within ns.length t → out.length + (items t).length ≤ 1000000 → hgt t < k → QI.tree_arena_items.f k ns root fr i out = some (out ++ (items t).map toI, root)
 | .nil, i, out, k, hh, _, _, hk => by
  obtain ⟨k, rfl⟩ : ∃ j, k = j + 1 := ⟨k - 1, by omega⟩
  have e : i = -1 := hh
  subst e
  simp [QI.tree_arena_items.f, items]
 | .node p x l r, i, out, k, hh, hw, hl, hk => by
  obtain ⟨k, rfl⟩ : ∃ j, k = j + 1 := ⟨k - 1, by omega⟩
  obtain ⟨rfl, ⟨h0, h1, h2⟩, hL, hR, _⟩ := hh
  have hp : p < ns.length := hw.p
  have hrd : rd_T64 ns (p : Int) = ns.getD p z64 := by unfold rd_T64; rw [Int.toNat_natCast]
  have c0 := cellN_at ns p (k := 0) (by omega)
  have c1 := cellN_at ns p (k := 1) (by omega)
  have c2 := cellN_at ns p (k := 2) (by omega)
  have c3 := cellN_at ns p (k := 3) (by omega)
  have c4 := cellN_at ns p (k := 4) (by omega)
  rw [Nat.add_zero] at c0
  simp only [fieldN] at c0 c1 c2 c3 c4
  rw [c3] at hL
  rw [c4] at hR
  rw [c0] at h0
  rw [c1] at h1
  rw [c2] at h2
  have hi : items (.node p x l r) = items l ++ x :: items r := rfl
  rw [hi] at hl
  simp only [List.length_append, List.length_cons] at hl
  have hkl : hgt l < k := by simp only [hgt] at hk; omega
  have hkr : hgt r < k := by simp only [hgt] at hk; omega
  rw [QI.tree_arena_items.f, if_neg (by omega), if_pos (by omega), if_pos (by omega), hrd, items_f ns fr root l _ out k hL hw.l (by omega) hkl]
  simp only [Option.bind_some]
  rw [if_pos (by simp; omega), items_f ns fr root r _ _ k hR hw.r (by simp; omega) hkr]
  simp only [Option.bind_some, hi, List.map_append, List.map_cons, List.append_assoc, List.singleton_append]
  rw [h0, h1, h2]
  rfl
theorem items_is {ns : List Nd} {fr : List Int} {root : Int} {t : T} {i : Int} {out : List It} {q : Nat} {P : Nat → Prop} {v : Value} {W0 W : World} (hh : Hang (cellN ns) t i) (hw : Within ns.length t) (hl : out.length + (items t).length ≤ 1000000) (hI : QI.IsS97 W0 W q ns root fr) (hB : Below W0.heap.size W0 W) (ho : Kd.R k50 50 W W0.heap.size P v out) :
  Calls Try.prog 46 #[.pointer (some ⟨q, 0, none⟩), .int .i64 i, v] W fun e w' => ∃ v0 : Value, e = .returned v0 ∧ Kd.R k50 50 w' W0.heap.size (fun k => P k ∨ W.heap.size ≤ k) v0 (out ++ (items t).map toI) ∧ Below W0.heap.size W0 w' ∧ Kept W w' (fun k => P k ∨ k = q) := by
 refine (QI.tree_arena_items.calls (hgt t + 1) q ns root fr i P v out _ _ W0 W hI hB ho (items_f ns fr root t i out (hgt t + 1) hh hw hl (by omega))).mono ?_
 rintro e w' ⟨v0, rfl, h1, _, h2, h3⟩
 exact ⟨v0, rfl, h1, h2, h3⟩
set_option maxHeartbeats 4000000 in
set_option maxRecDepth 100000 in
theorem cloneN_is (A : Option Addr) (c : Nat) (ns : List Nd) (w : World) (hr : Kd.C k64 w A ns.length ns) (hl : ns.length * 56 ≤ 140737488355328) :
  Calls Try.prog 76 #[.slice A ns.length c] w fun e w' => ∃ A' c', e = .returned (.slice A' ns.length c') ∧ Kd.R k64 64 w' w.heap.size (fun _ => True) (.slice A' ns.length c') ns ∧ Below w.heap.size w w' := by
 cases A with
 | none =>
  have hn : ns = [] := by
   by_cases h : 0 < ns.length
   ·obtain ⟨ad, e, _⟩ := hr.2.2 h
    cases e
   ·exact List.eq_nil_of_length_eq_zero (by omega)
  subst hn
  have HR : Hid (Kd.R k64 64 w w.heap.size (fun _ => True) (.slice none 0 0) []) := Lib.hid (Kd.R_nil _ _ _ _ _)
  have hnil : ∀ W, (binOp .eql 22 (.slice none 0 c) (.slice none 0 0)).run Try.prog W = .ok (.bool true) W := fun W => Lib.run_eql_slice_nil (P := Try.prog) W 22 64 none 0 c 0 0 Try.underlying22
  clear hr hl
  go_enter Try.func76, Try.ntmps76
  go_wp2_with fail
  go_ret
  exact ⟨none, 0, rfl, HR.out, Below.refl _ _⟩
 | some ad =>
  have HL0 : Hid (Kd.R k64 64 (w.alloc (.cells #[] 64)) w.heap.size (fun _ => True) (.slice (some ⟨w.heap.size, 0, none⟩) 0 0) []) := by
   refine Lib.hid ⟨fun _ _ => trivial, [], ?_, Reps.none _ _⟩
   exact World.ownsRow_lit (base := w.heap.size) (e := 64) (size := 7) w #[] 0 (Nat.le_refl _) (by decide) (by simp)
  have HB0 : Hid (Below w.heap.size w (w.alloc (.cells #[] 64))) := Lib.hid ((Below.refl w.heap.size w).alloc (Nat.le_refl _) _)
  have HC : Hid (Kd.C k64 (w.alloc (.cells #[] 64)) (some ad) ns.length ns) := Lib.hid (Kd.C_below hr HB0.out)
  have hnil : ∀ W, (binOp .eql 22 (.slice (some ad) ns.length c) (.slice none 0 0)).run Try.prog W = .ok (.bool false) W := fun W => Lib.run_eql_slice_nil (P := Try.prog) W 22 64 (some ad) ns.length c 0 0 Try.underlying22
  have HLL : Hid ((([] : List Nd).length + ns.length) * 56 ≤ 140737488355328) := Lib.hid (by simp; omega)
  clear hr
  go_enter Try.func76, Try.ntmps76
  go_wp2_with (first | ((with_reducible refine gate_builtin (b := .append) (xs := #[.tmp 5, .tmp 6]) rfl ?_); at_builtin; refine Kd.R_append_rows k64 (Rr := k64.K (w.alloc (.cells #[] 64))) (w0 := w) w.heap.size rfl (.tmp 5) (.tmp 6) 22 64 (.agg #[.int .i64 0, .int .i64 0, .int .i64 0, .int .i64 0, .int .i64 0, .int .i64 0, .int .i64 0]) 56 rfl Try.underlying22 info64 rfl (by decide) (by omega) (.slice (some ⟨w.heap.size, 0, none⟩) 0 0) [] ns (some ad) ns.length c (fun _ => True) (fun _ => False) rfl rfl ?aO ?aR ?aM (fun _ h => h.elim) ?aF ?aB ?aS ?aL ?_; (case aO => exact HL0.out); (case aR => exact HC.out); (case aM => (intro y cs hy; obtain rfl := k64_open hy; exact k64_mkM _ _ _ y)); (case aF => exact (fun _ _ => trivial)); (case aB => exact HB0.out); (case aS => exact HB0.out.size); (case aL => exact HLL.out); intro v1 w1 ho1 hb1 hg1 hat1; simp only [List.nil_append] at ho1; have HO1 := Lib.hid ho1; have HB1 := Lib.hid hb1; obtain ⟨A1_, k1_, rfl⟩ := Kd.R_slice ho1; clear ho1 hb1 hg1 hat1))
  go_ret
  exact ⟨A1_, k1_, rfl, HO1.out, HB1.out⟩
set_option maxHeartbeats 4000000 in
set_option maxRecDepth 100000 in
theorem cloneI_is (A : Option Addr) (c : Nat) (ns : List Int) (w : World) (hr : Kd.C (Kd.int .i64) w A ns.length ns) (hl : ns.length * 8 ≤ 140737488355328) :
  Calls Try.prog 77 #[.slice A ns.length c] w fun e w' => ∃ A' c', e = .returned (.slice A' ns.length c') ∧ Kd.R (Kd.int .i64) 3 w' w.heap.size (fun _ => True) (.slice A' ns.length c') ns ∧ Below w.heap.size w w' := by
 cases A with
 | none =>
  have hn : ns = [] := by
   by_cases h : 0 < ns.length
   ·obtain ⟨ad, e, _⟩ := hr.2.2 h
    cases e
   ·exact List.eq_nil_of_length_eq_zero (by omega)
  subst hn
  have HR : Hid (Kd.R (Kd.int .i64) 3 w w.heap.size (fun _ => True) (.slice none 0 0) []) := Lib.hid (Kd.R_nil _ _ _ _ _)
  have hnil : ∀ W, (binOp .eql 23 (.slice none 0 c) (.slice none 0 0)).run Try.prog W = .ok (.bool true) W := fun W => Lib.run_eql_slice_nil (P := Try.prog) W 23 3 none 0 c 0 0 Try.underlying23
  clear hr hl
  go_enter Try.func77, Try.ntmps77
  go_wp2_with fail
  go_ret
  exact ⟨none, 0, rfl, HR.out, Below.refl _ _⟩
 | some ad =>
  have HL0 : Hid (Kd.R (Kd.int .i64) 3 (w.alloc (.cells #[] 3)) w.heap.size (fun _ => True) (.slice (some ⟨w.heap.size, 0, none⟩) 0 0) []) := by
   refine Lib.hid ⟨fun _ _ => trivial, [], ?_, Reps.none _ _⟩
   exact World.ownsRow_lit (base := w.heap.size) (e := 3) (size := 1) w #[] 0 (Nat.le_refl _) (by decide) (by simp)
  have HB0 : Hid (Below w.heap.size w (w.alloc (.cells #[] 3))) := Lib.hid ((Below.refl w.heap.size w).alloc (Nat.le_refl _) _)
  have HC : Hid (Kd.C (Kd.int .i64) (w.alloc (.cells #[] 3)) (some ad) ns.length ns) := Lib.hid (Kd.C_below hr HB0.out)
  have hnil : ∀ W, (binOp .eql 23 (.slice (some ad) ns.length c) (.slice none 0 0)).run Try.prog W = .ok (.bool false) W := fun W => Lib.run_eql_slice_nil (P := Try.prog) W 23 3 (some ad) ns.length c 0 0 Try.underlying23
  have HLL : Hid ((([] : List Int).length + ns.length) * 8 ≤ 140737488355328) := Lib.hid (by simp; omega)
  clear hr
  go_enter Try.func77, Try.ntmps77
  go_wp2_with (first | ((with_reducible refine gate_builtin (b := .append) (xs := #[.tmp 5, .tmp 6]) rfl ?_); at_builtin; refine Kd.R_append_rows (Kd.int .i64) (Rr := (Kd.int .i64).K (w.alloc (.cells #[] 3))) (w0 := w) w.heap.size rfl (.tmp 5) (.tmp 6) 23 3 (.int .i64 0) 8 rfl Try.underlying23 info3 rfl (by decide) (by omega) (.slice (some ⟨w.heap.size, 0, none⟩) 0 0) [] ns (some ad) ns.length c (fun _ => True) (fun _ => False) rfl rfl ?aO ?aR ?aM (fun _ h => h.elim) ?aF ?aB ?aS ?aL ?_; (case aO => exact HL0.out); (case aR => exact HC.out); (case aM => (intro y cs hy; exact hy)); (case aF => exact (fun _ _ => trivial)); (case aB => exact HB0.out); (case aS => exact HB0.out.size); (case aL => exact HLL.out); intro v1 w1 ho1 hb1 hg1 hat1; simp only [List.nil_append] at ho1; have HO1 := Lib.hid ho1; have HB1 := Lib.hid hb1; obtain ⟨A1_, k1_, rfl⟩ := Kd.R_slice ho1; clear ho1 hb1 hg1 hat1))
  go_ret
  exact ⟨A1_, k1_, rfl, HO1.out, HB1.out⟩
end Go.Proofs.Ytgkjpffbgnljeaa.Man
/- tree.own: an arena of a tree, in memory of its own. -/
set_option linter.unusedVariables false
set_option linter.unusedSimpArgs false
namespace Go.Proofs.Ytgkjpffbgnljeaa.Man
open Go.RowKit Go.Proofs.Ytgkjpffbgnljeaa.QT Go.Proofs.Ytgkjpffbgnljeaa.TreeM Go.Proofs.YtgkjpffbgnljeaaW.PrintWords Go.Proofs.YtgkjpffbgnljeaaW.PrintLast Go.Proofs.YtgkjpffbgnljeaaW.PrintMore
theorem own_fin {w W : World} {A : Option Addr} {c cf : Nat} {F : Option Addr} {ns : List Nd} {fr : List Int} {root : Int} (hN : Kd.R k64 64 W w.heap.size (fun _ => True) (.slice A ns.length c) ns) (hF : Kd.R (Kd.int .i64) 3 W w.heap.size (fun _ => True) (.slice F fr.length cf) fr) (hb : Below w.heap.size w W) :
  Ar (W.alloc (.cells #[.slice A ns.length c, .int .i64 root, .slice F fr.length cf] 97)) w.heap.size W.heap.size A ns.length c (cellN ns) (.slice F fr.length cf) fr root :=
 ⟨blk_new _ _, hb.size, by rw [listN_cellN]; exact Kd.R_below hN ((Below.refl _ _).alloc (Nat.le_refl _) _), Kd.R_below hF ((Below.refl _ _).alloc (Nat.le_refl _) _)⟩
theorem own_is97 {W : World} {A : Option Addr} {c cf : Nat} {F : Option Addr} {ns : List Nd} {fr : List Int} {root : Int} {b : Nat} (hN : Kd.R k64 64 W b (fun _ => True) (.slice A ns.length c) ns) (hF : Kd.R (Kd.int .i64) 3 W b (fun _ => True) (.slice F fr.length cf) fr) :
  QI.IsS97 W (W.alloc (.cells #[.slice A ns.length c, .int .i64 root, .slice F fr.length cf] 97)) W.heap.size ns root fr := by
 obtain ⟨A1, c1, e1, _, hC⟩ := Kd.R_reads hN
 obtain ⟨A2, c2, e2, _, hD⟩ := Kd.R_reads hF
 injection e1 with e1 _ _
 injection e2 with e2 _ _
 subst e1 e2
 exact ⟨A, c, F, cf, ⟨97, [], .inl rfl, blk_new _ _⟩, Nat.le_refl _, hC, hD⟩
set_option maxHeartbeats 4000000 in
set_option maxRecDepth 100000 in
theorem own_is (A : Option Addr) (c : Nat) (ns : List Nd) (root : Int) (F : Option Addr) (cf : Nat) (fr : List Int) (w : World) (hr : Kd.C k64 w A ns.length ns) (hf : Kd.C (Kd.int .i64) w F fr.length fr) (hl : ns.length * 56 ≤ 140737488355328) (hlf : fr.length * 8 ≤ 140737488355328) :
  Calls Try.prog 45 #[.agg #[.slice A ns.length c, .int .i64 root, .slice F fr.length cf]] w fun e w' => ∃ q A' c' vf', e = .returned (.pointer (some ⟨q, 0, none⟩)) ∧ Ar w' w.heap.size q A' ns.length c' (cellN ns) vf' fr root ∧ Below w.heap.size w w' ∧ ∃ W0, QI.IsS97 W0 w' q ns root fr ∧ Below W0.heap.size W0 w' ∧ Below w.heap.size w W0 := by
 have hb0 : Below w.heap.size w (w.alloc (.cells #[.slice A ns.length c, .int .i64 root, .slice F fr.length cf] 25)) := (Below.refl _ _).alloc (Nat.le_refl _) _
 have HCN : Hid (∀ W', Below w.heap.size w W' → Calls Try.prog 76 #[.slice A ns.length c] W' fun e w' => ∃ A' c', e = .returned (.slice A' ns.length c') ∧ Kd.R k64 64 w' W'.heap.size (fun _ => True) (.slice A' ns.length c') ns ∧ Below W'.heap.size W' w') := Lib.hid fun W' hb => cloneN_is A c ns W' (Kd.C_below hr hb) hl
 have HCI : Hid (∀ W', Below w.heap.size w W' → Calls Try.prog 77 #[.slice F fr.length cf] W' fun e w' => ∃ A' c', e = .returned (.slice A' fr.length c') ∧ Kd.R (Kd.int .i64) 3 w' W'.heap.size (fun _ => True) (.slice A' fr.length c') fr ∧ Below W'.heap.size W' w') := Lib.hid fun W' hb => cloneI_is F cf fr W' (Kd.C_below hf hb) hlf
 have HBX := Lib.hid (blk_new w (.cells #[.slice A ns.length c, .int .i64 root, .slice F fr.length cf] 25 (0, 0)))
 have HB0 := Lib.hid hb0
 clear hr hf hb0
 go_enter Try.func45, Try.ntmps45
 go_wp2_with fail
 generalize w.alloc (.cells #[.slice A ns.length c, .int .i64 root, .slice F fr.length cf] 25) = w1 at *
 have HBd : Hid (Below w1.heap.size w1 w1.drew) := Lib.hid (below_drew (Below.refl _ _))
 have KS : Hid (∀ W', Below w1.heap.size w1 W' → W'.cell? ⟨w.heap.size, 0, none⟩ = some (.slice A ns.length c) ∧ W'.cell? ⟨w.heap.size, 1, none⟩ = some (.int .i64 root) ∧ W'.cell? ⟨w.heap.size, 2, none⟩ = some (.slice F fr.length cf)) := Lib.hid fun W' hb => ⟨(blk_cell (blk_below HBX.out hb) 0).trans rfl, (blk_cell (blk_below HBX.out hb) 1).trans rfl, (blk_cell (blk_below HBX.out hb) 2).trans rfl⟩
 have KW : Hid (∀ W', Below w1.heap.size w1 W' → Below w.heap.size w W') := Lib.hid fun W' hb => below_then HB0.out HB0.out.size hb
 go_region_held3 (fun W => W.cell? ⟨w.heap.size, 0, none⟩ = some (.slice A ns.length c) ∧ W.cell? ⟨w.heap.size, 1, none⟩ = some (.int .i64 root) ∧ W.cell? ⟨w.heap.size, 2, none⟩ = some (.slice F fr.length cf))
  (first | exact KS.out _ HBd.out | exact KS.out _ HBN.out | exact KS.out _ HBI.out | exact KS.out _ (below_alloc HBI.out _) | exact KS.out _ (below_alloc HBN.out _))
  (first
   | (go_at_call 76; refine (HCN.out _ (KW.out _ (by first | exact HBI.out | exact HBd.out))).mono ?_; rintro e wN ⟨AN, cN, rfl, hrN, hbN⟩; have HbN := Lib.hid hbN; have HBN : Hid (Below w1.heap.size w1 wN) := Lib.hid (by first | exact below_then HBI.out HBI.out.size hbN | exact below_then HBd.out HBd.out.size hbN); have HRN : Hid (Kd.R k64 64 wN w.heap.size (fun _ => True) (.slice AN ns.length cN) ns) := Lib.hid (Kd.R_lower hrN (by first | exact (KW.out _ HBI.out).size | exact (KW.out _ HBd.out).size)); clear hrN hbN)
   | (go_at_call 77; refine (HCI.out _ (KW.out _ (by first | exact HBN.out | exact HBd.out))).mono ?_; rintro e wI ⟨AI, cI, rfl, hrI, hbI⟩; have HbI := Lib.hid hbI; have HBI : Hid (Below w1.heap.size w1 wI) := Lib.hid (by first | exact below_then HBN.out HBN.out.size hbI | exact below_then HBd.out HBd.out.size hbI); have HRI : Hid (Kd.R (Kd.int .i64) 3 wI w.heap.size (fun _ => True) (.slice AI fr.length cI) fr) := Lib.hid (Kd.R_lower hrI (by first | exact (KW.out _ HBN.out).size | exact (KW.out _ HBd.out).size)); clear hrI hbI))
 all_goals
  go_wp2_with fail
  go_ret
  first
  | exact ⟨_, _, _, _, rfl, own_fin (Kd.R_below HRN.out HbI.out) HRI.out (KW.out _ HBI.out), below_alloc (KW.out _ HBI.out) _, wI, own_is97 (Kd.R_below HRN.out HbI.out) HRI.out, (Below.refl _ _).alloc (Nat.le_refl _) _, KW.out _ HBI.out⟩
  | exact ⟨_, _, _, _, rfl, own_fin HRN.out (Kd.R_below HRI.out HbN.out) (KW.out _ HBN.out), below_alloc (KW.out _ HBN.out) _, wN, own_is97 HRN.out (Kd.R_below HRI.out HbN.out), (Below.refl _ _).alloc (Nat.le_refl _) _, KW.out _ HBN.out⟩
end Go.Proofs.Ytgkjpffbgnljeaa.Man
/- tree.May: may a tree be. -/
set_option linter.unusedVariables false
set_option linter.unusedSimpArgs false
namespace Go.Proofs.Ytgkjpffbgnljeaa.Man
open Go.RowKit Go.Proofs.Ytgkjpffbgnljeaa.QT Go.Proofs.Ytgkjpffbgnljeaa.TreeM Go.Proofs.YtgkjpffbgnljeaaW.PrintWords Go.Proofs.YtgkjpffbgnljeaaW.PrintLast Go.Proofs.YtgkjpffbgnljeaaW.PrintMore
theorem index_l0 (l : List Int) (x : Int) (hl : l.length ≤ 1000000) : ∀ (m j k : Nat), m + j = l.length → m < k → ∃ r, QA.slices_Index_int_int.l0 k l x (l.length : Int) (j : Int) = some r ∧ (r ≥ 0 ↔ x ∈ l.drop j)
 | 0, j, k, h, hk => by
  obtain ⟨k, rfl⟩ : ∃ j, k = j + 1 := ⟨k - 1, by omega⟩
  refine ⟨-1, by rw [QA.slices_Index_int_int.l0, if_neg (by omega)], ?_⟩
  rw [List.drop_of_length_le (by omega)]
  simp
 | m + 1, j, k, h, hk => by
  obtain ⟨k, rfl⟩ : ∃ j, k = j + 1 := ⟨k - 1, by omega⟩
  have hj : j < l.length := by omega
  have hrd : rd l (j : Int) = l[j] := by unfold rd; rw [Int.toNat_natCast]; simp [List.getD, List.getElem?_eq_getElem hj]
  rw [QA.slices_Index_int_int.l0, if_pos (by omega), if_pos (by omega), if_pos (by omega), hrd, List.drop_eq_getElem_cons hj]
  by_cases e : x = l[j]
  ·rw [if_pos e]
   exact ⟨(j : Int), rfl, ⟨fun _ => by rw [e]; exact List.mem_cons_self, fun _ => by omega⟩⟩
  ·rw [if_neg e]
   have hw : wrap64 ((j : Int) + 1) = ((j + 1 : Nat) : Int) := by unfold wrap64; omega
   rw [hw]
   obtain ⟨r, h1, h2⟩ := index_l0 l x hl m (j + 1) k (by omega) (by omega)
   refine ⟨r, h1, h2.trans ?_⟩
   rw [List.mem_cons]
   exact ⟨.inr, fun g => g.elim (fun g => absurd g e) id⟩
theorem contains_f (l : List Int) (x : Int) (hl : l.length ≤ 1000000) : QA.slices_Contains_int_int.f (l.length + 1) l x = some (decide (x ∈ l)) := by
 obtain ⟨r, h1, h2⟩ := index_l0 l x hl l.length 0 (l.length + 1) (by omega) (by omega)
 rw [List.drop_zero] at h2
 unfold QA.slices_Contains_int_int.f QA.slices_Index_int_int.f
 rw [show ((0 : Nat) : Int) = 0 from rfl] at h1
 rw [h1]
 simp only [Option.bind_some]
 congr 1
 by_cases g : x ∈ l
 ·rw [decide_eq_true g, decide_eq_true (h2.2 g)]
 ·rw [decide_eq_false g, decide_eq_false (fun e => g (h2.1 e))]
def seenL (nn : Nat) (S : Nat → Bool) : List Int := (List.range nn).map (fun j => if S j = true then 1 else 0)
theorem seenL_length (nn : Nat) (S : Nat → Bool) : (seenL nn S).length = nn := by simp [seenL]
theorem seenL_mem (nn : Nat) (S : Nat → Bool) : (0 : Int) ∈ seenL nn S ↔ ∃ p, p < nn ∧ S p = false := by
 unfold seenL
 rw [List.mem_map]
 constructor
 ·rintro ⟨p, hp, e⟩
  refine ⟨p, List.mem_range.1 hp, ?_⟩
  cases h : S p
  ·rfl
  ·rw [h] at e; simp at e
 ·rintro ⟨p, hp, e⟩
  exact ⟨p, List.mem_range.2 hp, by rw [e]; simp⟩
theorem Lk.seenC {W : World} {q sg nn cn cs : Nat} {A : Option Addr} {root : Int} {vf : Value} {ok : Bool} {S : Nat → Bool} (h : Lk W q sg A nn cn root vf cs ok S) (hn : nn ≤ 1000000) : Kd.C (Kd.int .i64) W (some ⟨sg, 0, none⟩) (seenL nn S).length (seenL nn S) := by
 refine Kd.C_of_reads (enc := Value.int .i64) (d := (0 : Int)) (h1 := fun _ => rfl) ⟨rfl, by rw [seenL_length]; omega, fun _ => ⟨_, rfl, fun j hj => ?_⟩⟩
 rw [seenL_length] at hj
 rw [add_plain, h.cell hj]
 simp [seenL, List.getD, hj]
theorem row_snoc {xs : List Itm} {k : Nat} (hk : k + 1 < xs.length) (h : Row (xs.take (k + 1))) (hl : lt xs[k] xs[k + 1]) : Row (xs.take (k + 1 + 1)) := by
 have e : xs.take (k + 1 + 1) = xs.take (k + 1) ++ [xs[k + 1]] := by rw [List.take_succ_eq_append_getElem hk]
 rw [e]
 refine List.pairwise_append.2 ⟨h, by simp, fun y hy z hz => ?_⟩
 rw [List.mem_singleton.1 hz]
 have e2 : xs.take (k + 1) = xs.take k ++ [xs[k]] := by rw [List.take_succ_eq_append_getElem (by omega)]
 rw [e2] at hy h
 rcases List.mem_append.1 hy with hy | hy
 ·exact lt_trans ((List.pairwise_append.1 h).2.2 y hy _ (by simp)) hl
 ·rw [List.mem_singleton.1 hy]; exact hl
theorem row_not {xs : List Itm} {k : Nat} (hk : k + 1 < xs.length) (h : ¬ lt xs[k] xs[k + 1]) : ¬ Row xs := fun hr => h (List.pairwise_iff_getElem.1 hr k (k + 1) (by omega) hk (by omega))
instance (xs : List Itm) : Decidable (Row xs) := by unfold Row; exact inferInstance
def RowAt (w : World) (xs : List Itm) (i : Value) (wr : World) : Prop := ∃ k : Nat, i = .int .i64 ((k + 1 : Nat) : Int) ∧ (k + 1 ≤ xs.length ∨ k = 0) ∧ Row (xs.take (k + 1)) ∧ Below w.heap.size w wr
set_option maxHeartbeats 8000000 in
set_option maxRecDepth 100000 in
theorem may_tree (A : Option Addr) (c : Nat) (ns : List Nd) (root : Int) (F : Option Addr) (cf : Nat) (fr : List Int) (w : World) (hr : Kd.C k64 w A ns.length ns) (hf : Kd.C (Kd.int .i64) w F fr.length fr) (hlf : fr.length ≤ 281474976710656) :
  Calls Try.prog 16 #[.agg #[.slice A ns.length c, .int .i64 root, .slice F fr.length cf]] w fun e w' => e = .returned (.bool (mayT (cellN ns) ns.length root fr)) ∧ Below w.heap.size w w' := by
 have HB0 : Hid (Below w.heap.size w (w.alloc (.cells #[.slice A ns.length c, .int .i64 root, .slice F fr.length cf] 25))) := Lib.hid ((Below.refl _ _).alloc (Nat.le_refl _) _)
 by_cases hbig : ns.length ≤ 32
 case neg =>
  have HV : Hid (mayT (cellN ns) ns.length root fr = false) := Lib.hid (mayT_false.2 (fun t h => hbig h.size))
  have hd : (32 : Int) < (ns.length : Int) := by omega
  rw [HV.out]
  clear hr hf
  go_enter Try.func16, Try.ntmps16
  go_wp2_with fail
  go_ret
  exact ⟨rfl, HB0.out⟩
 case pos =>
 have HCN : Hid (∀ W', Below w.heap.size w W' → Kd.C k64 W' A ns.length ns) := Lib.hid fun W' hb => Kd.C_below hr hb
 have HCF : Hid (∀ W', Below w.heap.size w W' → Kd.C (Kd.int .i64) W' F fr.length fr) := Lib.hid fun W' hb => Kd.C_below hf hb
 have HBIG := Lib.hid hbig
 have hd : ¬ (32 : Int) < (ns.length : Int) := by omega
 have HBX := Lib.hid (blk_new w (.cells #[.slice A ns.length c, .int .i64 root, .slice F fr.length cf] 25 (0, 0)))
 have hmk := print_make (P := Try.prog) 23 3 .i64 8 Try.underlying23 info3 (by decide) ns.length (by omega)
 clear hr hf
 go_enter Try.func16, Try.ntmps16
 go_wp2_with fail
 go_region
 have HLK : Hid (Lk (((w.alloc (.cells #[.slice A ns.length c, .int .i64 root, .slice F fr.length cf] 25)).alloc (.cells (madeCells #[.int .i64 0] ns.length) 3)).alloc (.cells #[.slice A ns.length c, .int .i64 root, .slice F fr.length cf, .slice (some ⟨w.heap.size + 1, 0, none⟩) ns.length ns.length, .bool true] 99)).drew (w.heap.size + 1 + 1) (w.heap.size + 1) A ns.length c root (.slice F fr.length cf) ns.length true (fun _ => false)) := Lib.hid (by
  have b1 : ((w.alloc (.cells #[.slice A ns.length c, .int .i64 root, .slice F fr.length cf] 25)).alloc (.cells (madeCells #[.int .i64 0] ns.length) 3)).heap[w.heap.size + 1]? = some (.cells (madeCells #[.int .i64 0] ns.length) 3 (0, 0)) := by simpa using blk_new (w.alloc (.cells #[.slice A ns.length c, .int .i64 root, .slice F fr.length cf] 25)) (.cells (madeCells #[.int .i64 0] ns.length) 3 (0, 0))
  have b2 := blk_new ((w.alloc (.cells #[.slice A ns.length c, .int .i64 root, .slice F fr.length cf] 25)).alloc (.cells (madeCells #[.int .i64 0] ns.length) 3)) (.cells #[.slice A ns.length c, .int .i64 root, .slice F fr.length cf, .slice (some ⟨w.heap.size + 1, 0, none⟩) ns.length ns.length, .bool true] 99 (0, 0))
  have e2 : ((w.alloc (.cells #[.slice A ns.length c, .int .i64 root, .slice F fr.length cf] 25)).alloc (.cells (madeCells #[.int .i64 0] ns.length) 3)).heap.size = w.heap.size + 1 + 1 := by simp
  rw [e2] at b2
  refine ⟨b2, _, blk_alloc b1 _, fun j hj => ?_⟩
  have h2 : (madeCells #[Value.int .i64 0] ns.length)[j]? = (List.replicate ns.length (Value.int .i64 0))[j]? := by rw [← toList_madeCells_one, Array.getElem?_toList]
  rw [h2, List.getElem?_replicate, if_pos hj]
  rfl)
 have HBW : Hid (Below w.heap.size w (((w.alloc (.cells #[.slice A ns.length c, .int .i64 root, .slice F fr.length cf] 25)).alloc (.cells (madeCells #[.int .i64 0] ns.length) 3)).alloc (.cells #[.slice A ns.length c, .int .i64 root, .slice F fr.length cf, .slice (some ⟨w.heap.size + 1, 0, none⟩) ns.length ns.length, .bool true] 99)).drew) := Lib.hid (below_drew (below_alloc (below_alloc HB0.out _) _))
 have HBX2 : Hid ((((w.alloc (.cells #[.slice A ns.length c, .int .i64 root, .slice F fr.length cf] 25)).alloc (.cells (madeCells #[.int .i64 0] ns.length) 3)).alloc (.cells #[.slice A ns.length c, .int .i64 root, .slice F fr.length cf, .slice (some ⟨w.heap.size + 1, 0, none⟩) ns.length ns.length, .bool true] 99)).drew.heap[w.heap.size]? = some (.cells #[.slice A ns.length c, .int .i64 root, .slice F fr.length cf] 25 (0, 0))) := Lib.hid (blk_alloc (blk_alloc HBX.out _) _)
 clear hmk HBX HB0
 generalize (((w.alloc (.cells #[.slice A ns.length c, .int .i64 root, .slice F fr.length cf] 25)).alloc (.cells (madeCells #[.int .i64 0] ns.length) 3)).alloc (.cells #[.slice A ns.length c, .int .i64 root, .slice F fr.length cf, .slice (some ⟨w.heap.size + 1, 0, none⟩) ns.length ns.length, .bool true] 99)).drew = w2 at *
 have HP : Hid (∀ W', Buts (Sn (w.heap.size + 1 + 1) (w.heap.size + 1)) w2 W' → Below w.heap.size w W') := Lib.hid fun W' hb => HBW.out.trans (hb.below (fun k hk => by rcases hk with rfl | rfl <;> omega) HBW.out.size)
 have HBK : Hid (∀ W', Buts (Sn (w.heap.size + 1 + 1) (w.heap.size + 1)) w2 W' → W'.heap[w.heap.size]? = some (.cells #[.slice A ns.length c, .int .i64 root, .slice F fr.length cf] 25 (0, 0))) := Lib.hid fun W' hb => (hb.block _ (blk_lt HBX2.out) (by rintro (e | e) <;> omega)).trans HBX2.out
 have HR : Hid (∀ W', Buts (Sn (w.heap.size + 1 + 1) (w.heap.size + 1)) w2 W' → Rd W' A ns.length (cellN ns)) := Lib.hid fun W' hb => Rd.of_C (HCN.out W' (HP.out W' hb))
 have HF : Hid (∀ W', Buts (Sn (w.heap.size + 1 + 1) (w.heap.size + 1)) w2 W' → Kd.C (Kd.int .i64) W' F fr.length fr) := Lib.hid fun W' hb => HCF.out W' (HP.out W' hb)
 have HV := Lib.hid (visit_is w2 _ _ A ns.length c root (.slice F fr.length cf) ns.length (cellN ns) HR.out (by omega) _ w2 (fun _ => false) root (Nat.le_refl _) (Buts.refl _ _) HLK.out)
 have b1 := blk_cell HBX2.out 1
 simp at b1
 clear HLK
 go_wp2_with fail
 refine HV.out.mono ?_
 rintro e w3 ⟨rfl, hb3, hcase⟩
 have HB3 := Lib.hid hb3
 clear hb3 HV b1
 rcases hcase with ⟨t, hg, hl3⟩ | ⟨hno, S', hl3, hs3⟩
 case inr =>
  have HL3 := Lib.hid hl3
  have HVF : Hid (mayT (cellN ns) ns.length root fr = false) := Lib.hid (mayT_false.2 (fun t h => hno t h.good))
  have HFR := Lib.hid (free_is w2 w3 _ _ A ns.length c root F cf fr ns.length false (cellN ns) S' hl3 HB3.out HR.out HF.out hlf)
  clear hno hl3 hs3
  go_wp2_with fail
  refine HFR.out.mono ?_
  rintro e w4 ⟨rfl, hb4, hcase⟩
  have HBE := Lib.hid (HP.out w4 (HB3.out.trans hb4))
  have q4 : w4.cell? ⟨w.heap.size + 1 + 1, 4, none⟩ = some (.bool false) := by rcases hcase with ⟨S2, _, h⟩ | ⟨_, S2, h⟩ <;> exact (blk_cell h.blk 4).trans rfl
  clear hb4 hcase HFR
  go_wp2_with fail
  ((try simp only [Exit.inBlock, Exit.then]); refine bodyPost_ret (results_tmp rfl _ _ _) rfl ?_)
  exact ⟨by rw [HVF.out]; rfl, HBE.out⟩
 case inl =>
  have HG := Lib.hid hg
  have HFR := Lib.hid (free_is w2 w3 _ _ A ns.length c root F cf fr ns.length true (cellN ns) _ hl3 HB3.out HR.out HF.out hlf)
  clear hg hl3
  go_wp2_with fail
  refine HFR.out.mono ?_
  rintro e w4 ⟨rfl, hb4, hcase⟩
  have HB4 := Lib.hid (HB3.out.trans hb4)
  clear hb4 HFR HB3
  rcases hcase with ⟨S4, hf4, hl4⟩ | ⟨hf4, S4, hl4⟩
  case inr =>
   have HVF : Hid (mayT (cellN ns) ns.length root fr = false) := Lib.hid (mayT_false.2 (fun t' h => by
    have e : t' = t := h.good.one HG.out
    subst e
    obtain ⟨S5, e5, _⟩ := h.free
    rw [hf4] at e5
    cases e5))
   have q4 := blk_cell hl4.blk 4
   simp at q4
   have HBE := Lib.hid (HP.out w4 HB4.out)
   clear hl4 hf4
   go_wp2_with fail
   ((try simp only [Exit.inBlock, Exit.then]); refine bodyPost_ret (results_tmp rfl _ _ _) rfl ?_)
   exact ⟨by rw [HVF.out]; rfl, HBE.out⟩
  case inl =>
   have HL4 := Lib.hid hl4
   have HF4 := Lib.hid hf4
   have q4 := blk_cell hl4.blk 4
   have q3 := blk_cell hl4.blk 3
   simp at q4 q3
   have HCO := Lib.hid (QA.slices_Contains_int_int.calls ((seenL ns.length S4).length + 1) _ ns.length (seenL ns.length S4) 0 _ w4 (hl4.seenC (by omega)) (by rw [seenL_length]; exact Nat.le_refl _) (contains_f (seenL ns.length S4) 0 (by rw [seenL_length]; omega)))
   have hsl := seenL_length ns.length S4
   rw [hsl] at HCO
   clear hl4 hf4 hsl
   by_cases hun : ∃ p, p < ns.length ∧ S4 p = false
   case pos =>
    have HVF : Hid (mayT (cellN ns) ns.length root fr = false) := Lib.hid (mayT_false.2 (fun t' h => by
     have e : t' = t := h.good.one HG.out
     subst e
     obtain ⟨S5, e5, h5⟩ := h.free
     rw [HF4.out] at e5
     injection e5 with e5
     subst e5
     obtain ⟨p, hp, hs⟩ := hun
     rw [h5 p hp] at hs
     cases hs))
    have hdc : decide ((0 : Int) ∈ seenL ns.length S4) = true := decide_eq_true ((seenL_mem _ _).2 hun)
    rw [hdc] at HCO
    clear hun hdc
    go_wp2_with fail
    refine HCO.out.mono ?_
    rintro e w5 ⟨rfl, hd5⟩
    have HBE := Lib.hid ((HP.out w4 HB4.out).trans (hd5.below.mono (HP.out w4 HB4.out).size))
    clear hd5
    go_wp2_with fail
    ((try simp only [Exit.inBlock, Exit.then]); refine bodyPost_ret (results_tmp rfl _ _ _) rfl ?_)
    exact ⟨by rw [HVF.out]; rfl, HBE.out⟩
   case neg =>
    have HVF : Hid (mayT (cellN ns) ns.length root fr = decide (Row (items t))) := Lib.hid (by
     by_cases hrow : Row (items t)
     ·rw [decide_eq_true hrow]
      exact mayT_true.2 ⟨t, HBIG.out, HG.out, ⟨S4, HF4.out, fun p hp => by cases hs : S4 p with | true => rfl | false => exact absurd ⟨p, hp, hs⟩ hun⟩, hrow⟩
     ·rw [decide_eq_false hrow]
      exact mayT_false.2 (fun t' h => by
       have e : t' = t := h.good.one HG.out
       subst e
       exact hrow h.row))
    have hdc : decide ((0 : Int) ∈ seenL ns.length S4) = false := decide_eq_false (fun e => hun ((seenL_mem _ _).1 e))
    rw [hdc] at HCO
    clear hun hdc
    go_wp2_with fail
    refine HCO.out.mono ?_
    rintro e w5 ⟨rfl, hd5⟩
    have HB5 := Lib.hid ((HP.out w4 HB4.out).trans (hd5.below.mono (HP.out w4 HB4.out).size))
    have HX5 := Lib.hid (blk_below (HBK.out w4 HB4.out) hd5.below)
    have HL5 := Lib.hid (HL4.out.below hd5.below)
    clear hd5 q4 q3 HCO
    have hit : (items t).length ≤ 32 := by
     have := places_le HG.out.within HG.out.nodup
     rw [items_places]
     omega
    have HIT := Lib.hid (items_is (out := []) (q := w.heap.size + 1 + 1) (P := fun _ => False) (v := .slice none 0 0) (W0 := w) (W := w5.drew) (root := root) (fr := fr) HG.out.hang HG.out.within (by simp; omega) ⟨A, c, F, cf, ⟨99, _, .inr rfl, HL5.out.blk⟩, by omega, HCN.out w (Below.refl _ _), HCF.out w (Below.refl _ _)⟩ (below_drew HB5.out) (Kd.R_nil _ _ _ _ _))
    have y1 := blk_cell HX5.out 1
    simp at y1
    simp only [List.nil_append] at HIT
    go_wp2_with fail
    go_still_tail 5, (by kernel_rfl)
    change wpList _ _ _ _ _ w5.drew
    clear y1 HX5 HL5 HB5 HL4 HF4 HB4 HBK HR HF HP HBX2 HBW
    generalize w5.drew = w6 at HIT ⊢
    go_wp2_with fail
    refine HIT.out.mono ?_
    rintro e w7 ⟨v7, rfl, hr7, hb7, _⟩
    obtain ⟨A7, c7, rfl, hc7, hC7⟩ := Kd.R_reads hr7
    have HB7 := Lib.hid hb7
    have HC7 := Lib.hid hC7
    have hxl : ((items t).map toI).length = (items t).length := List.length_map ..
    rw [hxl] at hc7 HC7 ⊢
    clear hr7 hb7 hC7 HIT
    obtain ⟨xs, hxs⟩ : ∃ xs, items t = xs := ⟨_, rfl⟩
    have HX := Lib.hid hxs
    rw [hxs] at hc7 HC7 hit ⊢
    clear hxs hxl
    go_wp2_with fail
    go_loopw [5] (RowAt w7 xs) (fun i _ => xs.length + 1 - (intOf i).toNat)
    case atStart => exact ⟨0, rfl, .inr rfl, by cases xs <;> simp, Below.refl _ _⟩
    case round =>
     obtain ⟨k, rfl, hk, hrow, hb⟩ := hrel
     have HB8 := Lib.hid hb
     have HRW := Lib.hid hrow
     clear hb hrow
     by_cases hlt : k + 1 < xs.length
     case neg =>
      have HVT : Hid (mayT (cellN ns) ns.length root fr = true) := Lib.hid (by
       rw [HVF.out, HX.out]
       refine decide_eq_true ?_
       have := HRW.out
       rwa [List.take_of_length_le (by omega)] at this)
      have hdl : decide (((k + 1 : Nat) : Int) < (xs.length : Int)) = false := decide_eq_false (by omega)
      go_wp2_with fail
      ((try simp only [Exit.inBlock, Exit.then]); refine bodyPost_ret (results_tmp rfl _ _ _) rfl ?_)
      exact ⟨by rw [HVT.out]; rfl, below_then HB7.out HB7.out.size HB8.out⟩
     case pos =>
      have hk2 : k < xs.length := by omega
      obtain ⟨ad, eA, x0, x1, x2⟩ := at_T50 (Kd.C_below HC7.out HB8.out) (k : Int) (by omega) (by omega)
      obtain ⟨ad', eA', y0, y1, y2⟩ := at_T50 (Kd.C_below HC7.out HB8.out) ((k + 1 : Nat) : Int) (by omega) (by omega)
      have ea : ad' = ad := by rw [eA] at eA'; injection eA' with e; exact e.symm
      subst ea
      have hr0 : rd_T50 (xs.map toI) (k : Int) = toI xs[k] := by unfold rd_T50; rw [Int.toNat_natCast]; simp [List.getD, hk2]
      have hr1 : rd_T50 (xs.map toI) ((k + 1 : Nat) : Int) = toI xs[k + 1] := by unfold rd_T50; rw [Int.toNat_natCast]; simp [List.getD, hlt]
      rw [hr0, Int.toNat_natCast] at x0 x1 x2
      rw [hr1, Int.toNat_natCast] at y0 y1 y2
      have HN1 : Hid (lt xs[k] xs[k + 1] → Row (xs.take (k + 1 + 1))) := Lib.hid (row_snoc hlt HRW.out)
      have HN0 : Hid (¬ lt xs[k] xs[k + 1] → mayT (cellN ns) ns.length root fr = false) := Lib.hid (fun h => by rw [HVF.out, HX.out]; exact decide_eq_false (row_not hlt h))
      generalize xs[k] = u at x0 x1 x2 HN1 HN0
      generalize xs[k + 1] = v at y0 y1 y2 HN1 HN0
      obtain ⟨u0, u1, u2⟩ := u
      obtain ⟨v0, v1, v2⟩ := v
      simp only [toI] at x0 x1 x2 y0 y1 y2
      clear hr0 hr1 eA'
      subst eA
      have z0 : ∀ x : Later wr, x.at.cell? (ad'.add (k * 3)) = some (.int .i64 u0) := Later.cell x0
      have z1 : ∀ x : Later wr, x.at.cell? ⟨(ad'.add (k * 3)).block, (ad'.add (k * 3)).off + 1, none⟩ = some (.int .i64 u1) := Later.cell x1
      have z2 : ∀ x : Later wr, x.at.cell? ⟨(ad'.add (k * 3)).block, (ad'.add (k * 3)).off + 2, none⟩ = some (.int .i64 u2) := Later.cell x2
      have z3 : ∀ x : Later wr, x.at.cell? (ad'.add ((k + 1) * 3)) = some (.int .i64 v0) := Later.cell y0
      have z4 : ∀ x : Later wr, x.at.cell? ⟨(ad'.add ((k + 1) * 3)).block, (ad'.add ((k + 1) * 3)).off + 1, none⟩ = some (.int .i64 v1) := Later.cell y1
      have z5 : ∀ x : Later wr, x.at.cell? ⟨(ad'.add ((k + 1) * 3)).block, (ad'.add ((k + 1) * 3)).off + 2, none⟩ = some (.int .i64 v2) := Later.cell y2
      have hdl : decide (((k + 1 : Nat) : Int) < (xs.length : Int)) = true := decide_eq_true (by omega)
      have hw1 : IntKind.i64.wrap (((k + 1 : Nat) : Int) - 1) = (k : Int) := by rw [IntWalk.i64_in _ (by omega)]; omega
      have hw2 : IntKind.i64.wrap (((k + 1 : Nat) : Int) + 1) = ((k + 1 + 1 : Nat) : Int) := by rw [IntWalk.i64_in _ (by omega)]; omega
      have g0 : (0 : Int) ≤ (k : Int) := by omega
      have g1 : (k : Int) < (xs.length : Int) := by omega
      have g2 : (0 : Int) ≤ ((k + 1 : Nat) : Int) := by omega
      have g3 : ((k + 1 : Nat) : Int) < (xs.length : Int) := by omega
      have HLT := Lib.hid hlt
      clear x0 x1 x2 y0 y1 y2 hk2 hlt
      go_wp2_with fail
      refine wp_region_later (by kernel_rfl) (by kernel_rfl) ?_
      repeat (go_big_quiet_step (first
       | (go_at_call 55; with_reducible exact later_of (compare_is u0 u1 u2 v0 v1 v2 _))))
      refine wpQuiet_nil ?_
      rintro _ ⟨xl, rfl⟩
      have HB9 := Lib.hid (below_then HB8.out HB8.out.size xl.below)
      clear z0 z1 z2 z3 z4 z5
      by_cases hl : lt ⟨u0, u1, u2⟩ ⟨v0, v1, v2⟩
      ·have hcn : cmpF ⟨u0, u1, u2⟩ ⟨v0, v1, v2⟩ < 0 := cmpF_lt.2 hl
       have HR9 := Lib.hid (HN1.out hl)
       clear hl HN1 HN0
       generalize cmpF ⟨u0, u1, u2⟩ ⟨v0, v1, v2⟩ = cv at *
       go_wp2
       go_roundw
       case rel => exact ⟨k + 1, by go_num, .inl (by have := HLT.out; omega), HR9.out, HB9.out⟩
       case measure => simp [intOf]; have := HLT.out; omega
      ·have hcn : 0 ≤ cmpF ⟨u0, u1, u2⟩ ⟨v0, v1, v2⟩ := Int.not_lt.1 fun e => hl (cmpF_lt.1 e)
       have HVN := Lib.hid (HN0.out hl)
       clear hl HN1 HN0
       generalize cmpF ⟨u0, u1, u2⟩ ⟨v0, v1, v2⟩ = cv at *
       go_wp2
       ((try simp only [Exit.inBlock, Exit.then]); refine bodyPost_ret (results_tmp rfl _ _ _) rfl ?_)
       exact ⟨by rw [HVN.out]; rfl, below_then HB7.out HB7.out.size HB9.out⟩
end Go.Proofs.Ytgkjpffbgnljeaa.Man
/- Trees that may be, plain: the free places, the tree of a row of nodes, the row of nodes of a tree; a tree with an item more, one fewer. -/
set_option linter.unusedVariables false
set_option linter.unusedSimpArgs false
namespace Go.Proofs.Ytgkjpffbgnljeaa.Man
open Go.RowKit Go.Proofs.Ytgkjpffbgnljeaa.QT Go.Proofs.Ytgkjpffbgnljeaa.TreeM Go.Proofs.YtgkjpffbgnljeaaW.PrintWords Go.Proofs.YtgkjpffbgnljeaaW.PrintLast Go.Proofs.YtgkjpffbgnljeaaW.PrintMore
structure FreeIs (a : Cells) (nn : Nat) (t : T) (fr : List Int) (fn : List Nat) : Prop where
 eq : fr = fn.map Int.ofNat
 nodup : fn.Nodup
 lt : ∀ p ∈ fn, p < nn
 off : ∀ p ∈ fn, p ∉ places t
 blank : ∀ p ∈ fn, ∀ k, k < 7 → a (p * 7 + k) = 0
 all : ∀ p, p < nn → p ∈ places t ∨ p ∈ fn
theorem freeF_is {a : Cells} {nn : Nat} : ∀ (fr : List Int) (S S' : Nat → Bool), freeF a nn S fr = some S' ↔ ∃ fn : List Nat, fr = fn.map Int.ofNat ∧ fn.Nodup ∧ (∀ p ∈ fn, p < nn ∧ S p = false ∧ ∀ k, k < 7 → a (p * 7 + k) = 0) ∧ ∀ p, S' p = (S p || decide (p ∈ fn))
 | [], S, S' => by
  constructor
  ·intro h
   injection h with h
   subst h
   exact ⟨[], rfl, by simp, by simp, by simp⟩
  ·rintro ⟨fn, h1, _, _, h4⟩
   have e : fn = [] := by cases fn <;> simp_all
   subst e
   show some S = some S'
   congr 1
   funext p
   rw [h4 p]
   simp
 | x :: fr, S, S' => by
  show (if freeOk a nn S x = true then freeF a nn (plus S x.toNat) fr else none) = some S' ↔ _
  constructor
  ·intro h
   split at h
   case isFalse => cases h
   case isTrue hok =>
    obtain ⟨h0, h1, h2, h3⟩ := freeOk_iff.1 hok
    obtain ⟨fn, e1, e2, e3, e4⟩ := (freeF_is fr _ _).1 h
    refine ⟨x.toNat :: fn, by rw [e1]; simp; omega, List.nodup_cons.2 ⟨fun hm => ?_, e2⟩, ?_, ?_⟩
    ·have := (e3 _ hm).2.1
     exact (plus_off.1 this).2 rfl
    ·intro p hp
     rcases List.mem_cons.1 hp with rfl | hp
     ·exact ⟨by omega, h2, h3⟩
     ·obtain ⟨g1, g2, g3⟩ := e3 p hp
      exact ⟨g1, (plus_off.1 g2).1, g3⟩
    ·intro p
     rw [e4 p]
     unfold plus
     simp only [List.mem_cons, Bool.decide_or, Bool.or_assoc]
  ·rintro ⟨fn, h1, h2, h3, h4⟩
   cases fn with
   | nil => simp at h1
   | cons q fn =>
    simp only [List.map_cons, List.cons.injEq] at h1
    obtain ⟨e1, e2⟩ := h1
    subst e1
    obtain ⟨n1, n2⟩ := List.nodup_cons.1 h2
    obtain ⟨g1, g2, g3⟩ := h3 q List.mem_cons_self
    have hq : (Int.ofNat q).toNat = q := Int.toNat_natCast q
    have hok : freeOk a nn S (Int.ofNat q) = true := freeOk_iff.2 ⟨Int.natCast_nonneg q, by show (q : Int) < nn; omega, by rw [hq]; exact g2, by rw [hq]; exact g3⟩
    rw [if_pos hok, hq]
    refine (freeF_is fr _ _).2 ⟨fn, e2, n2, fun p hp => ?_, fun p => ?_⟩
    ·obtain ⟨k1, k2, k3⟩ := h3 p (List.mem_cons_of_mem _ hp)
     exact ⟨k1, plus_off.2 ⟨k2, fun e => n1 (e ▸ hp)⟩, k3⟩
    ·rw [h4 p]
     unfold plus
     simp only [List.mem_cons, Bool.decide_or, Bool.or_assoc]
theorem IsT.frees {a : Cells} {nn : Nat} {root : Int} {fr : List Int} {t : T} (h : IsT a nn root fr t) : ∃ fn, FreeIs a nn t fr fn := by
 obtain ⟨S', h1, h2⟩ := h.free
 obtain ⟨fn, e1, e2, e3, e4⟩ := (freeF_is _ _ _).1 h1
 refine ⟨fn, e1, e2, fun p hp => (e3 p hp).1, fun p hp => (plusT_off.1 (e3 p hp).2.1).2, fun p hp => (e3 p hp).2.2, fun p hp => ?_⟩
 have := h2 p hp
 rw [e4 p] at this
 unfold plusT at this
 simpa using this
theorem IsT.mk' {a : Cells} {nn : Nat} {root : Int} {fr : List Int} {t : T} (h1 : nn ≤ 32) (h2 : Good a nn (fun _ => false) root t) (h3 : ∃ fn, FreeIs a nn t fr fn) (h4 : Row (items t)) : IsT a nn root fr t := by
 obtain ⟨fn, h⟩ := h3
 refine ⟨h1, h2, ⟨fun p => plusT (fun _ => false) t p || decide (p ∈ fn), (freeF_is _ _ _).2 ⟨fn, h.eq, h.nodup, fun p hp => ⟨h.lt p hp, plusT_off.2 ⟨rfl, h.off p hp⟩, h.blank p hp⟩, fun _ => rfl⟩, fun p hp => ?_⟩, h4⟩
 have := h.all p hp
 unfold plusT
 simpa using this
theorem FreeIs.count {a : Cells} {nn : Nat} {t : T} {fr : List Int} {fn : List Nat} (h : FreeIs a nn t fr fn) (hw : Within nn t) (hn : (places t).Nodup) : (items t).length + fr.length = nn := by
 have hnd : (places t ++ fn).Nodup := List.nodup_append.2 ⟨hn, h.nodup, fun x hx y hy e => h.off y hy (e ▸ hx)⟩
 have h1 := sub_length (places t ++ fn) (List.range nn) hnd (fun x hx => List.mem_range.2 ((List.mem_append.1 hx).elim (hw x) (h.lt x)))
 have h2 := sub_length (List.range nn) (places t ++ fn) List.nodup_range (fun x hx => List.mem_append.2 (h.all x (List.mem_range.1 hx)))
 rw [List.length_range] at h1 h2
 rw [items_places, h.eq, List.length_map]
 simp only [List.length_append] at h1 h2
 omega
theorem IsT.count {a : Cells} {nn : Nat} {root : Int} {fr : List Int} {t : T} (h : IsT a nn root fr t) : (items t).length + fr.length = nn := by
 obtain ⟨fn, hf⟩ := h.frees
 exact hf.count h.good.within h.good.nodup
noncomputable def treeOf (a : Cells) (nn : Nat) (root : Int) (fr : List Int) : T := open Classical in if h : ∃ t, IsT a nn root fr t then h.choose else .nil
theorem treeOf_is {a : Cells} {nn : Nat} {root : Int} {fr : List Int} {t : T} (h : IsT a nn root fr t) : treeOf a nn root fr = t := by
 have hx : ∃ t, IsT a nn root fr t := ⟨t, h⟩
 unfold treeOf
 rw [dif_pos hx]
 exact hx.choose_spec.one h
theorem hang_cells {a b : Cells} : ∀ {t : T} {i j : Int}, Hang a t i → Hang b t j → ∀ s ∈ places t, ∀ k, k < 7 → a (s * 7 + k) = b (s * 7 + k)
 | .nil, _, _, _, _, s, hs => by simp [places] at hs
 | .node p x l r, i, j, h, g, s, hs => by
  obtain ⟨_, ⟨a0, a1, a2⟩, a3, a4, a5, a6⟩ := h
  obtain ⟨_, ⟨b0, b1, b2⟩, b3, b4, b5, b6⟩ := g
  intro k hk
  simp only [places, List.mem_append, List.mem_cons] at hs
  rcases hs with hs | hs | hs
  ·exact hang_cells a3 b3 s hs k hk
  ·subst hs
   match k, hk with
   | 0, _ => rw [Nat.add_zero, a0, b0]
   | 1, _ => rw [a1, b1]
   | 2, _ => rw [a2, b2]
   | 3, _ => rw [a3.plc, b3.plc]
   | 4, _ => rw [a4.plc, b4.plc]
   | 5, _ => rw [a5, b5]
   | 6, _ => rw [a6, b6]
  ·exact hang_cells a4 b4 s hs k hk
noncomputable def nodesOf (nn : Nat) (t : T) : List Nd := open Classical in if h : ∃ a : Cells, Hang a t (plc t) ∧ ∀ s, s < nn → s ∉ places t → ∀ k, k < 7 → a (s * 7 + k) = 0 then listN nn h.choose else []
theorem nodesOf_is {a : Cells} {nn : Nat} {t : T} (h1 : Hang a t (plc t)) (h2 : ∀ s, s < nn → s ∉ places t → ∀ k, k < 7 → a (s * 7 + k) = 0) : nodesOf nn t = listN nn a := by
 have hx : ∃ a : Cells, Hang a t (plc t) ∧ ∀ s, s < nn → s ∉ places t → ∀ k, k < 7 → a (s * 7 + k) = 0 := ⟨a, h1, h2⟩
 unfold nodesOf
 rw [dif_pos hx]
 obtain ⟨g1, g2⟩ := hx.choose_spec
 refine listN_ext (fun j hj => ?_)
 have e : j = j / 7 * 7 + j % 7 := by omega
 rw [e]
 by_cases hm : j / 7 ∈ places t
 ·exact hang_cells g1 h1 _ hm _ (by omega)
 ·rw [g2 _ (by omega) hm _ (by omega), h2 _ (by omega) hm _ (by omega)]
theorem Hang.within {a b : Cells} {nn : Nat} (h : ∀ j, j < nn * 7 → a j = b j) : ∀ {t : T} {i : Int}, Hang a t i → Within nn t → Hang b t i
 | .nil, _, g, _ => g
 | .node p x l r, i, ⟨g1, ⟨i0, i1, i2⟩, g3, g4, g5, g6⟩, hw => by
  have hp := hw.p
  refine ⟨g1, ⟨by rw [← h _ (by omega)]; exact i0, by rw [← h _ (by omega)]; exact i1, by rw [← h _ (by omega)]; exact i2⟩, ?_, ?_, by rw [← h _ (by omega)]; exact g5, by rw [← h _ (by omega)]; exact g6⟩
  ·rw [← h _ (by omega)]; exact Hang.within h g3 hw.l
  ·rw [← h _ (by omega)]; exact Hang.within h g4 hw.r
theorem FreeIs.blanks {a : Cells} {nn : Nat} {t : T} {fr : List Int} {fn : List Nat} (h : FreeIs a nn t fr fn) : ∀ s, s < nn → s ∉ places t → ∀ k, k < 7 → a (s * 7 + k) = 0 := fun s hs hm k hk => h.blank s ((h.all s hs).resolve_left hm) k hk
def placeOf (nn : Nat) (fr : List Int) : Nat := match fr.getLast? with | none => nn | some p => p.toNat
def freeOf (fr : List Int) : List Int := fr.dropLast
def sizeOfNew (nn : Nat) (fr : List Int) : Nat := if fr = [] then nn + 1 else nn
theorem takes_of {a : Cells} {nn : Nat} {t : T} {fr : List Int} {fn : List Nat} (h : FreeIs a nn t fr fn) : Takes nn fr (placeOf nn fr) (sizeOfNew nn fr) (freeOf fr) := by
 by_cases e : fr = []
 ·exact .inl ⟨e, by rw [e]; rfl, by rw [e]; rfl, by unfold sizeOfNew; rw [if_pos e]⟩
 ·refine .inr ?_
  obtain ⟨f', q, hq⟩ : ∃ f' q, fr = f' ++ [q] := ⟨fr.dropLast, fr.getLast e, (List.dropLast_concat_getLast e).symm⟩
  have hm : q ∈ fr := by rw [hq]; simp
  rw [h.eq, List.mem_map] at hm
  obtain ⟨p, hp, hpq⟩ := hm
  have e1 : placeOf nn fr = p := by unfold placeOf; rw [hq, List.getLast?_append, ← hpq]; simp
  refine ⟨by rw [e1]; unfold freeOf; rw [hq, List.dropLast_concat, ← hpq]; rfl, by rw [e1]; exact h.lt p hp, by unfold sizeOfNew; rw [if_neg e]⟩
theorem place_off {a : Cells} {nn : Nat} {t : T} {fr : List Int} {fn : List Nat} (h : FreeIs a nn t fr fn) (hw : Within nn t) : placeOf nn fr ∉ places t := by
 rcases takes_of h with ⟨_, _, e, _⟩ | ⟨e, _, _⟩
 ·rw [e]; exact fun hm => Nat.lt_irrefl _ (hw _ hm)
 ·have hm : ((placeOf nn fr : Nat) : Int) ∈ fr := by
   have : ((placeOf nn fr : Nat) : Int) ∈ freeOf fr ++ [((placeOf nn fr : Nat) : Int)] := by simp
   rwa [← e] at this
  generalize placeOf nn fr = pl at hm
  rw [h.eq, List.mem_map] at hm
  obtain ⟨p, hp, hpq⟩ := hm
  have : p = pl := by have : (p : Int) = (pl : Int) := hpq; omega
  rw [← this]
  exact h.off p hp
theorem IsT.put {a a' : Cells} {nn : Nat} {root : Int} {fr : List Int} {t : T} {x : Itm} (h : IsT a nn root fr t) (hx : itmayF x = true) (hm : x ∉ items t) (hl : (items t).length < 32) (hg : Hang a' (put t x (placeOf nn fr)) (plc (put t x (placeOf nn fr)))) (ho : Off (fun s => s ∈ places t ∨ s = placeOf nn fr) a a') :
  IsT a' (sizeOfNew nn fr) (plc (TreeM.put t x (placeOf nn fr))) (freeOf fr) (TreeM.put t x (placeOf nn fr)) := by
 obtain ⟨fn, hf⟩ := h.frees
 have hc := h.count
 have ht := takes_of hf
 have hpo := place_off hf h.good.within
 have hle := ht.le
 have hit := items_put x (placeOf nn fr) t h.row
 refine IsT.mk' ?_ ⟨hg, ?_, nodup_put h.good.nodup hpo, fun _ _ => rfl, (put_bal x _ t h.good.bal).1, ?_⟩ ?_ ?_
 ·rcases ht with ⟨e, _, _, e2⟩ | ⟨_, _, e2⟩
  ·rw [e] at hc; simp at hc; omega
  ·rw [e2]; exact h.size
 ·intro s hs
  rcases mem_put.1 hs with e | e
  ·rw [e]; exact ht.lt
  ·exact Nat.lt_of_lt_of_le (h.good.within s e) hle
 ·intro y hy
  rw [hit] at hy
  rcases with_mem hy with rfl | hy
  ·exact hx
  ·exact h.good.may y hy
 ·rcases ht with ⟨e, e1, e2, e3⟩ | ⟨e, e2, e3⟩
  ·have hfn : fn = [] := by have h0 := hf.eq; rw [e] at h0; exact List.map_eq_nil_iff.1 h0.symm
   subst hfn
   refine ⟨[], by rw [e1]; rfl, by simp, by simp, by simp, by simp, fun s hs => .inl (mem_put.2 ?_)⟩
   by_cases g : s < nn
   ·exact .inr ((hf.all s g).resolve_right (by simp))
   ·exact .inl (by omega)
  ·have hcat : fn.map Int.ofNat = freeOf fr ++ [((placeOf nn fr : Nat) : Int)] := by rw [← hf.eq]; exact e
   obtain ⟨f1, f2, hff, hf1, hf2⟩ : ∃ f1 f2, fn = f1 ++ f2 ∧ f1.map Int.ofNat = freeOf fr ∧ f2.map Int.ofNat = [((placeOf nn fr : Nat) : Int)] := by
    obtain ⟨f1, f2, g1, g2, g3⟩ := List.map_eq_append_iff.1 hcat
    exact ⟨f1, f2, g1, g2, g3⟩
   have hf2' : f2 = [placeOf nn fr] := by
    cases f2 with
    | nil => simp at hf2
    | cons b f2 =>
     simp only [List.map_cons, List.cons.injEq, List.map_eq_nil_iff] at hf2
     obtain ⟨g1, g2⟩ := hf2
     have : b = placeOf nn fr := by have : (b : Int) = (placeOf nn fr : Int) := g1; omega
     rw [this, g2]
   subst hf2'
   have hnd := hf.nodup
   rw [hff] at hnd
   obtain ⟨n1, _, n3⟩ := List.nodup_append.1 hnd
   refine ⟨f1, hf1.symm, n1, fun p hp => ?_, fun p hp hp' => ?_, fun p hp k hk => ?_, fun p hp => ?_⟩
   ·rw [e3]; exact hf.lt p (by rw [hff]; exact List.mem_append_left _ hp)
   ·rcases mem_put.1 hp' with g | g
    ·exact n3 p hp _ List.mem_cons_self g
    ·exact hf.off p (by rw [hff]; exact List.mem_append_left _ hp) g
   ·have hpf : p ∈ fn := by rw [hff]; exact List.mem_append_left _ hp
    rw [ho p (fun g => g.elim (hf.off p hpf) (fun g => n3 p hp _ List.mem_cons_self g)) k hk]
    exact hf.blank p hpf k hk
   ·rw [e3] at hp
    rcases hf.all p hp with g | g
    ·exact .inl (mem_put.2 (.inr g))
    ·rw [hff] at g
     rcases List.mem_append.1 g with g | g
     ·exact .inr g
     ·exact .inl (mem_put.2 (.inl (by simpa using g)))
 ·rw [hit]; exact with_row h.row hm
theorem IsT.drop {a a' : Cells} {nn : Nat} {root : Int} {fr : List Int} {t : T} {x : Itm} (h : IsT a nn root fr t) (hm : x ∈ items t) (hg : Hang a' (TreeM.drop t x) (plc (TreeM.drop t x))) (ho : Off (fun s => s ∈ places t) a a') (hz : ∀ k, k < 7 → a' (gone t x * 7 + k) = 0) :
  IsT a' nn (plc (TreeM.drop t x)) (fr ++ [((gone t x : Nat) : Int)]) (TreeM.drop t x) := by
 obtain ⟨fn, hf⟩ := h.frees
 obtain ⟨d1, d2⟩ := nodup_drop h.good.nodup h.row hm
 have hmem := fun s => mem_drop (s := s) h.row hm
 have hit := items_drop t x h.row hm
 refine IsT.mk' h.size ⟨hg, fun s hs => h.good.within s ((hmem s).2 (.inr hs)), d2, fun _ _ => rfl, (drop_bal t x h.row hm h.good.bal).1, ?_⟩ ⟨fn ++ [gone t x], ?_, ?_, ?_, ?_, ?_, ?_⟩ ?_
 ·intro y hy
  rw [hit] at hy
  exact h.good.may y (List.mem_filter.1 hy).1
 ·rw [hf.eq, List.map_append]; rfl
 ·exact List.nodup_append.2 ⟨hf.nodup, by simp, fun p hp q hq e => hf.off p hp ((hmem p).2 (.inl (by rw [e]; simpa using hq)))⟩
 ·intro p hp
  rcases List.mem_append.1 hp with hp | hp
  ·exact hf.lt p hp
  ·rw [List.mem_singleton.1 hp]; exact h.good.within _ ((hmem _).2 (.inl rfl))
 ·intro p hp hp'
  rcases List.mem_append.1 hp with hp | hp
  ·exact hf.off p hp ((hmem p).2 (.inr hp'))
  ·rw [List.mem_singleton.1 hp] at hp'; exact d1 hp'
 ·intro p hp k hk
  rcases List.mem_append.1 hp with hp | hp
  ·rw [ho p (hf.off p hp) k hk]; exact hf.blank p hp k hk
  ·rw [List.mem_singleton.1 hp]; exact hz k hk
 ·intro p hp
  rcases hf.all p hp with g | g
  ·rcases (hmem p).1 g with g | g
   ·exact .inr (List.mem_append_right _ (by simp [g]))
   ·exact .inl g
  ·exact .inr (List.mem_append_left _ g)
 ·rw [hit]; exact sans_row h.row
end Go.Proofs.Ytgkjpffbgnljeaa.Man
/- tree.May, Items, Insert, Delete: what they answer, and that the calls answer so (in the print's own form). -/
set_option linter.unusedVariables false
set_option linter.unusedSimpArgs false
namespace Go.Proofs.Ytgkjpffbgnljeaa.Man
open Go.RowKit Go.Proofs.Ytgkjpffbgnljeaa.QT Go.Proofs.Ytgkjpffbgnljeaa.TreeM Go.Proofs.YtgkjpffbgnljeaaW.PrintWords Go.Proofs.YtgkjpffbgnljeaaW.PrintLast Go.Proofs.YtgkjpffbgnljeaaW.PrintMore
noncomputable def tree_May.f (l0_0 : List Nd) (a0_1 : Int) (l0_2 : List Int) : Option Bool := if l0_2.length < 17592186044416 then some (mayT (cellN l0_0) l0_0.length a0_1 l0_2) else none
theorem tree_May.calls (A0_0 : Option Addr) (c0_0 : Nat) (l0_0 : List Nd) (a0_1 : Int) (A0_2 : Option Addr) (c0_2 : Nat) (l0_2 : List Int) (r : Bool) (w : World) (hr0_0 : Kd.C k64 w A0_0 l0_0.length l0_0) (hc0_0 : l0_0.length ≤ c0_0) (hr0_2 : Kd.C (Kd.int .i64) w A0_2 l0_2.length l0_2) (hc0_2 : l0_2.length ≤ c0_2) (h : tree_May.f l0_0 a0_1 l0_2 = some r) :
  Calls Try.prog 16 #[.agg #[.slice A0_0 l0_0.length c0_0, .int .i64 a0_1, .slice A0_2 l0_2.length c0_2]] w fun e w' => e = .returned (.bool r) ∧ Below w.heap.size w w' := by
 unfold tree_May.f at h
 split at h
 ·injection h with h
  subst h
  exact may_tree A0_0 c0_0 l0_0 a0_1 A0_2 c0_2 l0_2 w hr0_0 hr0_2 (by omega)
 ·cases h
theorem IsT.free_le {a : Cells} {nn : Nat} {root : Int} {fr : List Int} {t : T} (h : IsT a nn root fr t) : fr.length ≤ 32 := by have := h.count; have := h.size; omega
theorem IsT.items_le {a : Cells} {nn : Nat} {root : Int} {fr : List Int} {t : T} (h : IsT a nn root fr t) : (items t).length ≤ 32 := by have := h.count; have := h.size; omega
theorem IsT.low {a : Cells} {nn : Nat} {root : Int} {fr : List Int} {t : T} (h : IsT a nn root fr t) : hgt t ≤ 32 := Nat.le_trans h.good.low h.size
noncomputable def itemsF (ns : List Nd) (root : Int) (fr : List Int) : List It × Int := open Classical in if mayT (cellN ns) ns.length root fr = true then ((items (treeOf (cellN ns) ns.length root fr)).map toI, 0) else ([], 1700)
theorem itemsF_yes {ns : List Nd} {root : Int} {fr : List Int} {t : T} (h : IsT (cellN ns) ns.length root fr t) : itemsF ns root fr = ((items t).map toI, 0) := by unfold itemsF; rw [if_pos (mayT_true.2 ⟨t, h⟩), treeOf_is h]
theorem itemsF_no {ns : List Nd} {root : Int} {fr : List Int} (h : mayT (cellN ns) ns.length root fr = false) : itemsF ns root fr = ([], 1700) := by unfold itemsF; rw [if_neg (by rw [h]; decide)]
set_option maxHeartbeats 4000000 in
set_option maxRecDepth 100000 in
theorem items_tree (A : Option Addr) (c : Nat) (ns : List Nd) (root : Int) (F : Option Addr) (cf : Nat) (fr : List Int) (w : World) (hr : Kd.C k64 w A ns.length ns) (hf : Kd.C (Kd.int .i64) w F fr.length fr) (hlf : fr.length ≤ 281474976710656) :
  Calls Try.prog 13 #[.agg #[.slice A ns.length c, .int .i64 root, .slice F fr.length cf]] w fun e w' => ∃ v0_ : Value, e = .returned (.tuple #[v0_, .int .i64 (itemsF ns root fr).2]) ∧ Kd.R k50 50 w' w.heap.size (fun _ => True) v0_ (itemsF ns root fr).1 ∧ Below w.heap.size w w' := by
 have HB1 : Hid (Below w.heap.size w (w.alloc (.cells #[.slice A ns.length c, .int .i64 root, .slice F fr.length cf] 25))) := Lib.hid ((Below.refl _ _).alloc (Nat.le_refl _) _)
 have HX1 := Lib.hid (blk_new w (.cells #[.slice A ns.length c, .int .i64 root, .slice F fr.length cf] 25 (0, 0)))
 have HM := Lib.hid (may_tree A c ns root F cf fr (w.alloc (.cells #[.slice A ns.length c, .int .i64 root, .slice F fr.length cf] 25)) (Kd.C_below hr HB1.out) (Kd.C_below hf HB1.out) hlf)
 have b0 := blk_cell HX1.out 0
 have b1 := blk_cell HX1.out 1
 have b2 := blk_cell HX1.out 2
 simp at b0 b1 b2
 have HCN : Hid (∀ W', Below w.heap.size w W' → Kd.C k64 W' A ns.length ns) := Lib.hid fun W' hb => Kd.C_below hr hb
 have HCF : Hid (∀ W', Below w.heap.size w W' → Kd.C (Kd.int .i64) W' F fr.length fr) := Lib.hid fun W' hb => Kd.C_below hf hb
 clear hr hf
 cases hmay : mayT (cellN ns) ns.length root fr with
 | false =>
  have HV := Lib.hid (itemsF_no hmay)
  rw [hmay] at HM
  rw [HV.out]
  clear hmay
  go_enter Try.func13, Try.ntmps13
  go_wp2_with fail
  refine HM.out.mono ?_
  rintro e w1 ⟨rfl, hb1⟩
  have HB2 := Lib.hid (below_then HB1.out HB1.out.size hb1)
  clear hb1 HM b0 b1 b2
  go_wp2_with fail
  go_ret2
  exact ⟨_, rfl, Kd.R_nil _ _ _ _ _, HB2.out⟩
 | true =>
  obtain ⟨t, ht⟩ := mayT_true.1 hmay
  have HT := Lib.hid ht
  have HV := Lib.hid (itemsF_yes ht)
  rw [hmay] at HM
  rw [HV.out]
  clear hmay ht
  go_enter Try.func13, Try.ntmps13
  go_wp2_with fail
  refine HM.out.mono ?_
  rintro e w1 ⟨rfl, hb1⟩
  have HB2 := Lib.hid (below_then HB1.out HB1.out.size hb1)
  have HX2 := Lib.hid (blk_below HX1.out hb1)
  clear hb1 HM b0 b1 b2 HX1
  have HBd : Hid (Below w.heap.size w w1.drew) := Lib.hid (below_drew HB2.out)
  have HOW := Lib.hid (own_is A c ns root F cf fr w1.drew (HCN.out _ HBd.out) (HCF.out _ HBd.out) (by have := HT.out.size; omega) (by have := HT.out.free_le; omega))
  have HXd : Hid (w1.drew.heap[w.heap.size]? = some (.cells #[.slice A ns.length c, .int .i64 root, .slice F fr.length cf] 25 (0, 0))) := Lib.hid HX2.out
  have d0 := blk_cell HXd.out 0
  have d1 := blk_cell HXd.out 1
  have d2 := blk_cell HXd.out 2
  simp at d0 d1 d2
  go_wp2_with fail
  go_region_with (first
   | (go_at_call 45; refine HOW.out.mono ?_; rintro e w2 ⟨q, A2, c2, vf2, rfl, _, hb2, W0, hI, hbW, hbw⟩; have HI := Lib.hid hI; have HBW := Lib.hid hbW; have HBw := Lib.hid hbw; have HX3 := Lib.hid (blk_below HXd.out hb2); have e1 := blk_cell HX3.out 1; simp at e1; clear hb2 hI hbW hbw)
   | (go_at_call 46; refine (items_is (out := []) (P := fun _ => False) HT.out.good.hang HT.out.good.within (by have := HT.out.items_le; simp; omega) HI.out HBW.out (Kd.R_nil _ _ _ _ _)).mono ?_; rintro e w3 ⟨v3, rfl, hr3, hb3, _⟩; simp only [List.nil_append] at hr3; have HR3 : Hid (Kd.R k50 50 w3 w.heap.size (fun _ => True) v3 ((items t).map toI)) := Lib.hid (Kd.R_mono (Kd.R_lower hr3 (below_then HBd.out HBd.out.size HBw.out).size) (fun _ _ => trivial)); have HB4 : Hid (Below w.heap.size w w3) := Lib.hid (below_then (below_then HBd.out HBd.out.size HBw.out) (below_then HBd.out HBd.out.size HBw.out).size hb3); clear hr3 hb3))
  all_goals
   go_wp2_with fail
   go_ret2
   exact ⟨_, rfl, HR3.out, HB4.out⟩
end Go.Proofs.Ytgkjpffbgnljeaa.Man
/- tree.Insert, Delete: what they answer, and that the calls answer so. -/
set_option linter.unusedVariables false
set_option linter.unusedSimpArgs false
namespace Go.Proofs.Ytgkjpffbgnljeaa.Man
open Go.RowKit Go.Proofs.Ytgkjpffbgnljeaa.QT Go.Proofs.Ytgkjpffbgnljeaa.TreeM Go.Proofs.YtgkjpffbgnljeaaW.PrintWords Go.Proofs.YtgkjpffbgnljeaaW.PrintLast Go.Proofs.YtgkjpffbgnljeaaW.PrintMore
abbrev Tr := List Nd × Int × List Int
noncomputable def insF (ns : List Nd) (root : Int) (fr : List Int) (x : Itm) : Tr × Int := open Classical in
 if mayT (cellN ns) ns.length root fr = true ∧ itmayF x = true then
  if x ∈ items (treeOf (cellN ns) ns.length root fr) then (([], 0, []), 1701)
  else if 32 ≤ (items (treeOf (cellN ns) ns.length root fr)).length then (([], 0, []), 1703)
  else ((nodesOf (sizeOfNew ns.length fr) (put (treeOf (cellN ns) ns.length root fr) x (placeOf ns.length fr)), plc (put (treeOf (cellN ns) ns.length root fr) x (placeOf ns.length fr)), freeOf fr), 0)
 else (([], 0, []), 1700)
theorem insF_no {ns : List Nd} {root : Int} {fr : List Int} {x : Itm} (h : ¬ (mayT (cellN ns) ns.length root fr = true ∧ itmayF x = true)) : insF ns root fr x = (([], 0, []), 1700) := by unfold insF; rw [if_neg h]
theorem insF_there {ns : List Nd} {root : Int} {fr : List Int} {x : Itm} {t : T} (h : IsT (cellN ns) ns.length root fr t) (hx : itmayF x = true) (hm : x ∈ items t) : insF ns root fr x = (([], 0, []), 1701) := by unfold insF; rw [if_pos ⟨mayT_true.2 ⟨t, h⟩, hx⟩, treeOf_is h, if_pos hm]
theorem insF_full {ns : List Nd} {root : Int} {fr : List Int} {x : Itm} {t : T} (h : IsT (cellN ns) ns.length root fr t) (hx : itmayF x = true) (hm : x ∉ items t) (hl : 32 ≤ (items t).length) : insF ns root fr x = (([], 0, []), 1703) := by unfold insF; rw [if_pos ⟨mayT_true.2 ⟨t, h⟩, hx⟩, treeOf_is h, if_neg hm, if_pos hl]
theorem insF_ok {ns : List Nd} {root : Int} {fr : List Int} {x : Itm} {t : T} (h : IsT (cellN ns) ns.length root fr t) (hx : itmayF x = true) (hm : x ∉ items t) (hl : ¬ 32 ≤ (items t).length) : insF ns root fr x = ((nodesOf (sizeOfNew ns.length fr) (put t x (placeOf ns.length fr)), plc (put t x (placeOf ns.length fr)), freeOf fr), 0) := by unfold insF; rw [if_pos ⟨mayT_true.2 ⟨t, h⟩, hx⟩, treeOf_is h, if_neg hm, if_neg hl]
noncomputable def delF (ns : List Nd) (root : Int) (fr : List Int) (x : Itm) : Tr × Int := open Classical in
 if mayT (cellN ns) ns.length root fr = true then
  if x ∈ items (treeOf (cellN ns) ns.length root fr) then ((nodesOf ns.length (drop (treeOf (cellN ns) ns.length root fr) x), plc (drop (treeOf (cellN ns) ns.length root fr) x), fr ++ [((gone (treeOf (cellN ns) ns.length root fr) x : Nat) : Int)]), 0)
  else (([], 0, []), 1702)
 else (([], 0, []), 1700)
theorem delF_no {ns : List Nd} {root : Int} {fr : List Int} {x : Itm} (h : mayT (cellN ns) ns.length root fr = false) : delF ns root fr x = (([], 0, []), 1700) := by unfold delF; rw [if_neg (by rw [h]; decide)]
theorem delF_none {ns : List Nd} {root : Int} {fr : List Int} {x : Itm} {t : T} (h : IsT (cellN ns) ns.length root fr t) (hm : x ∉ items t) : delF ns root fr x = (([], 0, []), 1702) := by unfold delF; rw [if_pos (mayT_true.2 ⟨t, h⟩), treeOf_is h, if_neg hm]
theorem delF_ok {ns : List Nd} {root : Int} {fr : List Int} {x : Itm} {t : T} (h : IsT (cellN ns) ns.length root fr t) (hm : x ∈ items t) : delF ns root fr x = ((nodesOf ns.length (drop t x), plc (drop t x), fr ++ [((gone t x : Nat) : Int)]), 0) := by unfold delF; rw [if_pos (mayT_true.2 ⟨t, h⟩), treeOf_is h, if_pos hm]
theorem Ar.root {W : World} {base q : Nat} {A : Option Addr} {nn cn : Nat} {a : Cells} {vf : Value} {fr : List Int} {root : Int} (h : Ar W base q A nn cn a vf fr root) (v : Int) : Ar (W.setCell ⟨q, 1, none⟩ (.int .i64 v)) base q A nn cn a vf fr v := by
 refine ⟨blk_set h.blk 1 _, h.hq, Kd.R_set h.nd h.blk (by intro t ht; simp [k64, k50, k27, Kd.iso, Kd.pair, Kd.int, Kd.scalar] at ht; subst ht; decide) 1 _, Kd.R_set h.fr h.blk (by intro t ht; simp [Kd.int, Kd.scalar] at ht; subst ht; decide) 1 _⟩
theorem Ar.rows {W : World} {base base' q : Nat} {A : Option Addr} {nn cn : Nat} {a : Cells} {vf : Value} {fr : List Int} {root : Int} {b : Nat} {cs : Array Value} (h : Ar W base q A nn cn a vf fr root) (hb : W.heap[b]? = some (.cells cs 25 (0, 0))) (hl : base' ≤ base) (v0 v1 v2 : Value) :
  Kd.R k64 64 (((W.setCell ⟨b, 0, none⟩ v0).setCell ⟨b, 1, none⟩ v1).setCell ⟨b, 2, none⟩ v2) base' (fun _ => True) (.slice A nn cn) (listN nn a) ∧ Kd.R (Kd.int .i64) 3 (((W.setCell ⟨b, 0, none⟩ v0).setCell ⟨b, 1, none⟩ v1).setCell ⟨b, 2, none⟩ v2) base' (fun _ => True) vf fr := by
 have e1 : ∀ t, t ∈ 64 :: k64.E → t ≠ 25 := by intro t ht; simp [k64, k50, k27, Kd.iso, Kd.pair, Kd.int, Kd.scalar] at ht; subst ht; decide
 have e2 : ∀ t, t ∈ 3 :: (Kd.int .i64).E → t ≠ 25 := by intro t ht; simp [Kd.int, Kd.scalar] at ht; subst ht; decide
 exact ⟨Kd.R_set (Kd.R_set (Kd.R_set (Kd.R_lower h.nd hl) hb e1 0 v0) (blk_set hb 0 v0) e1 1 v1) (blk_set (blk_set hb 0 v0) 1 v1) e1 2 v2, Kd.R_set (Kd.R_set (Kd.R_set (Kd.R_lower h.fr hl) hb e2 0 v0) (blk_set hb 0 v0) e2 1 v1) (blk_set (blk_set hb 0 v0) 1 v1) e2 2 v2⟩
set_option maxHeartbeats 8000000 in
set_option maxRecDepth 100000 in
theorem insert_tree (A : Option Addr) (c : Nat) (ns : List Nd) (root : Int) (F : Option Addr) (cf : Nat) (fr : List Int) (x1 x2 x3 : Int) (w : World) (hr : Kd.C k64 w A ns.length ns) (hf : Kd.C (Kd.int .i64) w F fr.length fr) (hlf : fr.length ≤ 281474976710656) :
  Calls Try.prog 26 #[.agg #[.slice A ns.length c, .int .i64 root, .slice F fr.length cf], .agg #[.int .i64 x1, .int .i64 x2, .int .i64 x3]] w fun e w' => ∃ v0_ v2_ : Value, e = .returned (.tuple #[.agg #[v0_, .int .i64 (insF ns root fr ⟨x1, x2, x3⟩).1.2.1, v2_], .int .i64 (insF ns root fr ⟨x1, x2, x3⟩).2]) ∧ Kd.R k64 64 w' w.heap.size (fun _ => True) v0_ (insF ns root fr ⟨x1, x2, x3⟩).1.1 ∧ Kd.R (Kd.int .i64) 3 w' w.heap.size (fun _ => True) v2_ (insF ns root fr ⟨x1, x2, x3⟩).1.2.2 ∧ Below w.heap.size w w' := by
 have HB : Hid (Below w.heap.size w (((w.alloc (.cells #[.slice A ns.length c, .int .i64 root, .slice F fr.length cf] 25)).alloc (.cells #[.int .i64 x1, .int .i64 x2, .int .i64 x3] 50)).alloc (.cells #[.slice none 0 0, .int .i64 0, .slice none 0 0] 25))) := Lib.hid (below_alloc (below_alloc ((Below.refl _ _).alloc (Nat.le_refl _) _) _) _)
 have HT : Hid ((((w.alloc (.cells #[.slice A ns.length c, .int .i64 root, .slice F fr.length cf] 25)).alloc (.cells #[.int .i64 x1, .int .i64 x2, .int .i64 x3] 50)).alloc (.cells #[.slice none 0 0, .int .i64 0, .slice none 0 0] 25)).heap[w.heap.size]? = some (.cells #[.slice A ns.length c, .int .i64 root, .slice F fr.length cf] 25 (0, 0))) := Lib.hid (blk_alloc (blk_alloc (blk_new w (.cells #[.slice A ns.length c, .int .i64 root, .slice F fr.length cf] 25 (0, 0))) _) _)
 have HI : Hid ((((w.alloc (.cells #[.slice A ns.length c, .int .i64 root, .slice F fr.length cf] 25)).alloc (.cells #[.int .i64 x1, .int .i64 x2, .int .i64 x3] 50)).alloc (.cells #[.slice none 0 0, .int .i64 0, .slice none 0 0] 25)).heap[w.heap.size + 1]? = some (.cells #[.int .i64 x1, .int .i64 x2, .int .i64 x3] 50 (0, 0))) := Lib.hid (by have := blk_alloc (blk_new (w.alloc (.cells #[.slice A ns.length c, .int .i64 root, .slice F fr.length cf] 25)) (.cells #[.int .i64 x1, .int .i64 x2, .int .i64 x3] 50 (0, 0))) (.cells #[.slice none 0 0, .int .i64 0, .slice none 0 0] 25); simpa using this)
 have HR : Hid ((((w.alloc (.cells #[.slice A ns.length c, .int .i64 root, .slice F fr.length cf] 25)).alloc (.cells #[.int .i64 x1, .int .i64 x2, .int .i64 x3] 50)).alloc (.cells #[.slice none 0 0, .int .i64 0, .slice none 0 0] 25)).heap[w.heap.size + 1 + 1]? = some (.cells #[.slice none 0 0, .int .i64 0, .slice none 0 0] 25 (0, 0))) := Lib.hid (by have := blk_new ((w.alloc (.cells #[.slice A ns.length c, .int .i64 root, .slice F fr.length cf] 25)).alloc (.cells #[.int .i64 x1, .int .i64 x2, .int .i64 x3] 50)) (.cells #[.slice none 0 0, .int .i64 0, .slice none 0 0] 25 (0, 0)); simpa using this)
 have HM := Lib.hid (may_tree A c ns root F cf fr (((w.alloc (.cells #[.slice A ns.length c, .int .i64 root, .slice F fr.length cf] 25)).alloc (.cells #[.int .i64 x1, .int .i64 x2, .int .i64 x3] 50)).alloc (.cells #[.slice none 0 0, .int .i64 0, .slice none 0 0] 25)) (Kd.C_below hr HB.out) (Kd.C_below hf HB.out) hlf)
 have HCN : Hid (∀ W', Below w.heap.size w W' → Kd.C k64 W' A ns.length ns) := Lib.hid fun W' hb => Kd.C_below hr hb
 have HCF : Hid (∀ W', Below w.heap.size w W' → Kd.C (Kd.int .i64) W' F fr.length fr) := Lib.hid fun W' hb => Kd.C_below hf hb
 have p0 := blk_cell HT.out 0
 have p1 := blk_cell HT.out 1
 have p2 := blk_cell HT.out 2
 simp at p0 p1 p2
 clear hr hf
 cases hmay : mayT (cellN ns) ns.length root fr with
 | false =>
  have HV := Lib.hid (insF_no (x := ⟨x1, x2, x3⟩) (show ¬ (mayT (cellN ns) ns.length root fr = true ∧ itmayF ⟨x1, x2, x3⟩ = true) by rw [hmay]; simp))
  rw [hmay] at HM
  clear hmay
  go_enter Try.func26, Try.ntmps26
  go_wp2_with fail
  generalize (((w.alloc (.cells #[.slice A ns.length c, .int .i64 root, .slice F fr.length cf] 25)).alloc (.cells #[.int .i64 x1, .int .i64 x2, .int .i64 x3] 50)).alloc (.cells #[.slice none 0 0, .int .i64 0, .slice none 0 0] 25)) = w3 at *
  refine HM.out.mono ?_
  rintro e w4 ⟨rfl, hb4⟩
  replace HT := Lib.hid (blk_below HT.out hb4)
  replace HI := Lib.hid (blk_below HI.out hb4)
  replace HR := Lib.hid (blk_below HR.out hb4)
  replace HB := Lib.hid (below_then HB.out HB.out.size hb4)
  clear hb4
  clear HM p0 p1 p2
  have r0 := blk_cell HR.out 0
  have r1 := blk_cell HR.out 1
  have r2 := blk_cell HR.out 2
  simp at r0 r1 r2
  have f0 := blk_frozen HR.out 0
  have f1 := blk_frozen HR.out 1
  have f2 := blk_frozen HR.out 2
  go_wp2_with fail
  have hq := blk_set (blk_set (blk_set HR.out 0 (.slice none 0 0)) 1 (.int .i64 0)) 2 (.slice none 0 0)
  have q0 := blk_cell hq 0
  have q1 := blk_cell hq 1
  have q2 := blk_cell hq 2
  simp at q0 q1 q2
  exact bodyPost_ret (v := .tuple #[.agg #[.slice none 0 0, .int .i64 0, .slice none 0 0], .int .i64 1700]) (by simp [results, Try.results26, go_sem, q0, q1, q2]) rfl ⟨.slice none 0 0, .slice none 0 0, by rw [HV.out], by rw [HV.out]; exact Kd.R_nil _ _ _ _ _, by rw [HV.out]; exact Kd.R_nil _ _ _ _ _, ((HB.out.setCell (p := ⟨w.heap.size + 1 + 1, 0, none⟩) (by show w.heap.size ≤ w.heap.size + 1 + 1; omega) _).setCell (p := ⟨w.heap.size + 1 + 1, 1, none⟩) (by show w.heap.size ≤ w.heap.size + 1 + 1; omega) _).setCell (p := ⟨w.heap.size + 1 + 1, 2, none⟩) (by show w.heap.size ≤ w.heap.size + 1 + 1; omega) _⟩
 | true =>
  obtain ⟨t, ht⟩ := mayT_true.1 hmay
  have HTT := Lib.hid ht
  rw [hmay] at HM
  clear hmay ht
  have HIM : Hid (∀ W', Calls Try.prog 58 #[.agg #[.int .i64 x1, .int .i64 x2, .int .i64 x3]] W' fun e w' => e = .returned (.bool (itmayF ⟨x1, x2, x3⟩)) ∧ Below W'.heap.size W' w') := Lib.hid fun W' => itemMay_is x1 x2 x3 W'
  cases hx : itmayF ⟨x1, x2, x3⟩ with
  | false =>
   have HV := Lib.hid (insF_no (ns := ns) (root := root) (fr := fr) (x := ⟨x1, x2, x3⟩) (fun h => by rw [hx] at h; cases h.2))
   rw [hx] at HIM
   clear hx
   go_enter Try.func26, Try.ntmps26
   go_wp2_with fail
   generalize (((w.alloc (.cells #[.slice A ns.length c, .int .i64 root, .slice F fr.length cf] 25)).alloc (.cells #[.int .i64 x1, .int .i64 x2, .int .i64 x3] 50)).alloc (.cells #[.slice none 0 0, .int .i64 0, .slice none 0 0] 25)) = w3 at *
   refine HM.out.mono ?_
   rintro e w4 ⟨rfl, hb4⟩
   replace HT := Lib.hid (blk_below HT.out hb4)
   replace HI := Lib.hid (blk_below HI.out hb4)
   replace HR := Lib.hid (blk_below HR.out hb4)
   replace HB := Lib.hid (below_then HB.out HB.out.size hb4)
   clear hb4
   clear HM p0 p1 p2
   have i0 := blk_cell HI.out 0
   have i1 := blk_cell HI.out 1
   have i2 := blk_cell HI.out 2
   simp at i0 i1 i2
   go_wp2_with fail
   refine (HIM.out w4).mono ?_
   rintro e w5 ⟨rfl, hb5⟩
   replace HT := Lib.hid (blk_below HT.out hb5)
   replace HI := Lib.hid (blk_below HI.out hb5)
   replace HR := Lib.hid (blk_below HR.out hb5)
   replace HB := Lib.hid (below_then HB.out HB.out.size hb5)
   clear hb5
   clear HIM i0 i1 i2
   have r0 := blk_cell HR.out 0
   have r1 := blk_cell HR.out 1
   have r2 := blk_cell HR.out 2
   simp at r0 r1 r2
   have f0 := blk_frozen HR.out 0
   have f1 := blk_frozen HR.out 1
   have f2 := blk_frozen HR.out 2
   go_wp2_with fail
   have hq := blk_set (blk_set (blk_set HR.out 0 (.slice none 0 0)) 1 (.int .i64 0)) 2 (.slice none 0 0)
   have q0 := blk_cell hq 0
   have q1 := blk_cell hq 1
   have q2 := blk_cell hq 2
   simp at q0 q1 q2
   exact bodyPost_ret (v := .tuple #[.agg #[.slice none 0 0, .int .i64 0, .slice none 0 0], .int .i64 1700]) (by simp [results, Try.results26, go_sem, q0, q1, q2]) rfl ⟨.slice none 0 0, .slice none 0 0, by rw [HV.out], by rw [HV.out]; exact Kd.R_nil _ _ _ _ _, by rw [HV.out]; exact Kd.R_nil _ _ _ _ _, ((HB.out.setCell (p := ⟨w.heap.size + 1 + 1, 0, none⟩) (by show w.heap.size ≤ w.heap.size + 1 + 1; omega) _).setCell (p := ⟨w.heap.size + 1 + 1, 1, none⟩) (by show w.heap.size ≤ w.heap.size + 1 + 1; omega) _).setCell (p := ⟨w.heap.size + 1 + 1, 2, none⟩) (by show w.heap.size ≤ w.heap.size + 1 + 1; omega) _⟩
  | true =>
   have HXX := Lib.hid hx
   rw [hx] at HIM
   clear hx
   go_enter Try.func26, Try.ntmps26
   go_wp2_with fail
   generalize (((w.alloc (.cells #[.slice A ns.length c, .int .i64 root, .slice F fr.length cf] 25)).alloc (.cells #[.int .i64 x1, .int .i64 x2, .int .i64 x3] 50)).alloc (.cells #[.slice none 0 0, .int .i64 0, .slice none 0 0] 25)) = w3 at *
   refine HM.out.mono ?_
   rintro e w4 ⟨rfl, hb4⟩
   replace HT := Lib.hid (blk_below HT.out hb4)
   replace HI := Lib.hid (blk_below HI.out hb4)
   replace HR := Lib.hid (blk_below HR.out hb4)
   replace HB := Lib.hid (below_then HB.out HB.out.size hb4)
   clear hb4
   clear HM p0 p1 p2
   have i0 := blk_cell HI.out 0
   have i1 := blk_cell HI.out 1
   have i2 := blk_cell HI.out 2
   simp at i0 i1 i2
   go_wp2_with fail
   refine (HIM.out w4).mono ?_
   rintro e w5 ⟨rfl, hb5⟩
   replace HT := Lib.hid (blk_below HT.out hb5)
   replace HI := Lib.hid (blk_below HI.out hb5)
   replace HR := Lib.hid (blk_below HR.out hb5)
   replace HB := Lib.hid (below_then HB.out HB.out.size hb5)
   clear hb5
   clear HIM i0 i1 i2
   have p0 := blk_cell HT.out 0
   have p1 := blk_cell HT.out 1
   have p2 := blk_cell HT.out 2
   simp at p0 p1 p2
   have HOW := Lib.hid (own_is A c ns root F cf fr w5 (HCN.out _ HB.out) (HCF.out _ HB.out) (by have := HTT.out.size; omega) (by have := HTT.out.free_le; omega))
   go_wp2_with fail
   refine HOW.out.mono ?_
   rintro e w6 ⟨q, A2, c2, vf2, rfl, hA6, hb6, _⟩
   have HSZ : Hid (w.heap.size + 1 + 1 < w5.heap.size) := Lib.hid (blk_lt HR.out)
   have HBS : Hid (w.heap.size ≤ w5.heap.size) := Lib.hid HB.out.size
   have HA6 := Lib.hid hA6
   replace HT := Lib.hid (blk_below HT.out hb6)
   replace HI := Lib.hid (blk_below HI.out hb6)
   replace HR := Lib.hid (blk_below HR.out hb6)
   replace HB := Lib.hid (below_then HB.out HB.out.size hb6)
   clear hb6
   clear hA6 HOW p0 p1 p2
   generalize w5.heap.size = base at *
   have p0 := blk_cell HT.out 0
   have p1 := blk_cell HT.out 1
   have p2 := blk_cell HT.out 2
   simp at p0 p1 p2
   have i0 := blk_cell HI.out 0
   have i1 := blk_cell HI.out 1
   have i2 := blk_cell HI.out 2
   simp at i0 i1 i2
   have HHS := Lib.hid (has_is q A2 ns.length c2 (cellN ns) t root ⟨x1, x2, x3⟩ w6 HA6.out.hd (Rd.of_C (by obtain ⟨A_, c_, e_, _, hC_⟩ := Kd.R_reads HA6.out.nd; injection e_ with e_ _ _; subst e_; rw [listN_length, listN_cellN] at hC_; exact hC_)) HTT.out.good.hang HTT.out.good.within HTT.out.row)
   go_wp2_with fail
   refine HHS.out.mono ?_
   rintro e w7 ⟨rfl, hb7⟩
   have HA7 := Lib.hid (HA6.out.below hb7)
   replace HT := Lib.hid (blk_below HT.out hb7)
   replace HI := Lib.hid (blk_below HI.out hb7)
   replace HR := Lib.hid (blk_below HR.out hb7)
   replace HB := Lib.hid (below_then HB.out HB.out.size hb7)
   clear hb7
   clear HHS HA6 p0 p1 p2 i0 i1 i2
   by_cases hm : (⟨x1, x2, x3⟩ : Itm) ∈ items t
   ·have HV := Lib.hid (insF_there HTT.out HXX.out hm)
    have hdm := decide_eq_true hm
    rw [hdm]
    clear hm hdm
    have r0 := blk_cell HR.out 0
    have r1 := blk_cell HR.out 1
    have r2 := blk_cell HR.out 2
    simp at r0 r1 r2
    have f0 := blk_frozen HR.out 0
    have f1 := blk_frozen HR.out 1
    have f2 := blk_frozen HR.out 2
    go_wp2_with fail
    have hq := blk_set (blk_set (blk_set HR.out 0 (.slice none 0 0)) 1 (.int .i64 0)) 2 (.slice none 0 0)
    have q0 := blk_cell hq 0
    have q1 := blk_cell hq 1
    have q2 := blk_cell hq 2
    simp at q0 q1 q2
    exact bodyPost_ret (v := .tuple #[.agg #[.slice none 0 0, .int .i64 0, .slice none 0 0], .int .i64 1701]) (by simp [results, Try.results26, go_sem, q0, q1, q2]) rfl ⟨.slice none 0 0, .slice none 0 0, by rw [HV.out], by rw [HV.out]; exact Kd.R_nil _ _ _ _ _, by rw [HV.out]; exact Kd.R_nil _ _ _ _ _, ((HB.out.setCell (p := ⟨w.heap.size + 1 + 1, 0, none⟩) (by show w.heap.size ≤ w.heap.size + 1 + 1; omega) _).setCell (p := ⟨w.heap.size + 1 + 1, 1, none⟩) (by show w.heap.size ≤ w.heap.size + 1 + 1; omega) _).setCell (p := ⟨w.heap.size + 1 + 1, 2, none⟩) (by show w.heap.size ≤ w.heap.size + 1 + 1; omega) _⟩
   ·have hdm := decide_eq_false hm
    rw [hdm]
    clear hdm
    have hsub : IntKind.i64.wrap ((ns.length : Int) - (fr.length : Int)) = ((items t).length : Int) := by
     have h1 := HTT.out.count
     have h2 := HTT.out.size
     rw [IntWalk.i64_in _ (by omega)]
     omega
    by_cases hl : 32 ≤ (items t).length
    ·have HV := Lib.hid (insF_full HTT.out HXX.out hm hl)
     have hcl : (32 : Int) ≤ ((items t).length : Int) := by omega
     clear hm hl
     have p0 := blk_cell HT.out 0
     have p1 := blk_cell HT.out 1
     have p2 := blk_cell HT.out 2
     simp at p0 p1 p2
     have r0 := blk_cell HR.out 0
     have r1 := blk_cell HR.out 1
     have r2 := blk_cell HR.out 2
     simp at r0 r1 r2
     have f0 := blk_frozen HR.out 0
     have f1 := blk_frozen HR.out 1
     have f2 := blk_frozen HR.out 2
     go_wp2_with fail
     have hq := blk_set (blk_set (blk_set HR.out 0 (.slice none 0 0)) 1 (.int .i64 0)) 2 (.slice none 0 0)
     have q0 := blk_cell hq 0
     have q1 := blk_cell hq 1
     have q2 := blk_cell hq 2
     simp at q0 q1 q2
     exact bodyPost_ret (v := .tuple #[.agg #[.slice none 0 0, .int .i64 0, .slice none 0 0], .int .i64 1703]) (by simp [results, Try.results26, go_sem, q0, q1, q2]) rfl ⟨.slice none 0 0, .slice none 0 0, by rw [HV.out], by rw [HV.out]; exact Kd.R_nil _ _ _ _ _, by rw [HV.out]; exact Kd.R_nil _ _ _ _ _, ((HB.out.setCell (p := ⟨w.heap.size + 1 + 1, 0, none⟩) (by show w.heap.size ≤ w.heap.size + 1 + 1; omega) _).setCell (p := ⟨w.heap.size + 1 + 1, 1, none⟩) (by show w.heap.size ≤ w.heap.size + 1 + 1; omega) _).setCell (p := ⟨w.heap.size + 1 + 1, 2, none⟩) (by show w.heap.size ≤ w.heap.size + 1 + 1; omega) _⟩
    ·have HV := Lib.hid (insF_ok HTT.out HXX.out hm hl)
     have hcl : ((items t).length : Int) < 32 := by omega
     obtain ⟨fn, hfn⟩ := HTT.out.frees
     have HTK := Lib.hid (takes_of hfn)
     have HPO := Lib.hid (place_off hfn HTT.out.good.within)
     have HNM := Lib.hid hm
     have HBL := Lib.hid hfn.blanks
     have HLL : Hid ((items t).length < 32) := Lib.hid (by omega)
     have HPU := Lib.hid (put_is t w7.drew base q A2 ns.length c2 (cellN ns) vf2 fr root ⟨x1, x2, x3⟩ _ _ _ root (HA7.out.below (below_drew (Below.refl _ _))) HTK.out (by have := HTT.out.size; omega) (by have := HTT.out.free_le; omega) HTT.out.good.hang HTT.out.good.nodup HTT.out.good.within HPO.out HTT.out.good.bal (by have := HTT.out.low; omega))
     clear hm hl hfn
     have p0 := blk_cell HT.out 0
     have p1 := blk_cell HT.out 1
     have p2 := blk_cell HT.out 2
     simp at p0 p1 p2
     have i0 := blk_cell HI.out 0
     have i1 := blk_cell HI.out 1
     have i2 := blk_cell HI.out 2
     simp at i0 i1 i2
     have a1 := blk_cell HA7.out.blk 1
     simp at a1
     go_wp2_with fail
     go_region_with (first
       | (go_at_call 60; refine HPU.out.mono ?_; rintro e w8 ⟨rfl, hb8, A8, c8, a8, vf8, hA8, hg8, ho8⟩; have HB8 : Hid (Below base w7 w8) := Lib.hid ((below_drew (Below.refl _ _)).trans hb8); have HA8 := Lib.hid hA8; have HG8 := Lib.hid hg8; have HO8 := Lib.hid ho8; have a81 := blk_cell hA8.blk 1; have f81 := blk_frozen hA8.blk 1; simp at a81; clear hb8 hA8 hg8 ho8))
     all_goals
      have HR8 := Lib.hid ((HB8.out.block _ HSZ.out).trans HR.out)
      have HB9 : Hid (Below w.heap.size w w8) := Lib.hid (HB.out.trans (HB8.out.mono HBS.out))
      have HA9 := Lib.hid (HA8.out.root (plc (put t ⟨x1, x2, x3⟩ (placeOf ns.length fr))))
      have hqb : base ≤ q := HA8.out.hq
      have HR9 : Hid ((w8.setCell ⟨q, 1, none⟩ (.int .i64 (plc (put t ⟨x1, x2, x3⟩ (placeOf ns.length fr))))).heap[w.heap.size + 1 + 1]? = some (.cells #[.slice none 0 0, .int .i64 0, .slice none 0 0] 25 (0, 0))) := Lib.hid (blk_far HR8.out (by show w.heap.size + 1 + 1 ≠ q; have := HSZ.out; omega) _)
      have HBA : Hid (Below w.heap.size w (w8.setCell ⟨q, 1, none⟩ (.int .i64 (plc (put t ⟨x1, x2, x3⟩ (placeOf ns.length fr)))))) := Lib.hid (HB9.out.setCell (p := ⟨q, 1, none⟩) (by show w.heap.size ≤ q; have := HBS.out; omega) _)
      clear p0 p1 p2 i0 i1 i2 a1 a81 f81 HR8 HB9 HPU HA7 HT HI HR HB HB8 HA8
      have HNE : Hid (nodesOf (sizeOfNew ns.length fr) (put t ⟨x1, x2, x3⟩ (placeOf ns.length fr)) = listN (sizeOfNew ns.length fr) a8) := Lib.hid (nodesOf_is HG8.out (fun s hs hm k hk => by
       have hsm : s ∉ places t := fun e => hm (mem_put.2 (.inr e))
       have hsp : s ≠ placeOf ns.length fr := fun e => hm (mem_put.2 (.inl e))
       rw [HO8.out s (fun e => e.elim hsm hsp) k hk]
       refine HBL.out s ?_ hsm k hk
       rcases HTK.out with ⟨_, _, e1, e2⟩ | ⟨_, _, e2⟩ <;> omega))
      generalize w8.setCell ⟨q, 1, none⟩ (.int .i64 (plc (put t ⟨x1, x2, x3⟩ (placeOf ns.length fr)))) = w9 at *
      have g0 := blk_cell HA9.out.blk 0
      have g1 := blk_cell HA9.out.blk 1
      have g2 := blk_cell HA9.out.blk 2
      have hAf := Kd.R_slice HA9.out.fr
      obtain ⟨Af, cff, rfl⟩ := hAf
      simp at g0 g1 g2
      have r0 := blk_cell HR9.out 0
      have r1 := blk_cell HR9.out 1
      have r2 := blk_cell HR9.out 2
      simp at r0 r1 r2
      have f0 := blk_frozen HR9.out 0
      have f1 := blk_frozen HR9.out 1
      have f2 := blk_frozen HR9.out 2
      generalize plc (put t ⟨x1, x2, x3⟩ (placeOf ns.length fr)) = rt at *
      have hrows := HA9.out.rows HR9.out HBS.out (.slice A8 (sizeOfNew ns.length fr) c8) (.int .i64 rt) (.slice Af (freeOf fr).length cff)
      have HRW := Lib.hid hrows
      clear hrows
      go_wp2_with fail
      have hq := blk_set (blk_set (blk_set HR9.out 0 (.slice A8 (sizeOfNew ns.length fr) c8)) 1 (.int .i64 rt)) 2 (.slice Af (freeOf fr).length cff)
      have q0 := blk_cell hq 0
      have q1 := blk_cell hq 1
      have q2 := blk_cell hq 2
      simp at q0 q1 q2
      exact bodyPost_ret (v := .tuple #[.agg #[.slice A8 (sizeOfNew ns.length fr) c8, .int .i64 rt, .slice Af (freeOf fr).length cff], .int .i64 0]) (by simp [results, Try.results26, go_sem, q0, q1, q2]) rfl ⟨_, _, by rw [HV.out], by rw [HV.out, HNE.out]; exact HRW.out.1, by rw [HV.out]; exact HRW.out.2, ((HBA.out.setCell (p := ⟨w.heap.size + 1 + 1, 0, none⟩) (by show w.heap.size ≤ w.heap.size + 1 + 1; omega) _).setCell (p := ⟨w.heap.size + 1 + 1, 1, none⟩) (by show w.heap.size ≤ w.heap.size + 1 + 1; omega) _).setCell (p := ⟨w.heap.size + 1 + 1, 2, none⟩) (by show w.heap.size ≤ w.heap.size + 1 + 1; omega) _⟩
end Go.Proofs.Ytgkjpffbgnljeaa.Man
/- tree.Delete; Insert and Delete in the print's own form. -/
set_option linter.unusedVariables false
set_option linter.unusedSimpArgs false
namespace Go.Proofs.Ytgkjpffbgnljeaa.Man
open Go.RowKit Go.Proofs.Ytgkjpffbgnljeaa.QT Go.Proofs.Ytgkjpffbgnljeaa.TreeM Go.Proofs.YtgkjpffbgnljeaaW.PrintWords Go.Proofs.YtgkjpffbgnljeaaW.PrintLast Go.Proofs.YtgkjpffbgnljeaaW.PrintMore
set_option maxHeartbeats 8000000 in
set_option maxRecDepth 100000 in
theorem delete_tree (A : Option Addr) (c : Nat) (ns : List Nd) (root : Int) (F : Option Addr) (cf : Nat) (fr : List Int) (x1 x2 x3 : Int) (w : World) (hr : Kd.C k64 w A ns.length ns) (hf : Kd.C (Kd.int .i64) w F fr.length fr) (hlf : fr.length ≤ 281474976710656) :
  Calls Try.prog 30 #[.agg #[.slice A ns.length c, .int .i64 root, .slice F fr.length cf], .agg #[.int .i64 x1, .int .i64 x2, .int .i64 x3]] w fun e w' => ∃ v0_ v2_ : Value, e = .returned (.tuple #[.agg #[v0_, .int .i64 (delF ns root fr ⟨x1, x2, x3⟩).1.2.1, v2_], .int .i64 (delF ns root fr ⟨x1, x2, x3⟩).2]) ∧ Kd.R k64 64 w' w.heap.size (fun _ => True) v0_ (delF ns root fr ⟨x1, x2, x3⟩).1.1 ∧ Kd.R (Kd.int .i64) 3 w' w.heap.size (fun _ => True) v2_ (delF ns root fr ⟨x1, x2, x3⟩).1.2.2 ∧ Below w.heap.size w w' := by
 have HB : Hid (Below w.heap.size w (((w.alloc (.cells #[.slice A ns.length c, .int .i64 root, .slice F fr.length cf] 25)).alloc (.cells #[.int .i64 x1, .int .i64 x2, .int .i64 x3] 50)).alloc (.cells #[.slice none 0 0, .int .i64 0, .slice none 0 0] 25))) := Lib.hid (below_alloc (below_alloc ((Below.refl _ _).alloc (Nat.le_refl _) _) _) _)
 have HT : Hid ((((w.alloc (.cells #[.slice A ns.length c, .int .i64 root, .slice F fr.length cf] 25)).alloc (.cells #[.int .i64 x1, .int .i64 x2, .int .i64 x3] 50)).alloc (.cells #[.slice none 0 0, .int .i64 0, .slice none 0 0] 25)).heap[w.heap.size]? = some (.cells #[.slice A ns.length c, .int .i64 root, .slice F fr.length cf] 25 (0, 0))) := Lib.hid (blk_alloc (blk_alloc (blk_new w (.cells #[.slice A ns.length c, .int .i64 root, .slice F fr.length cf] 25 (0, 0))) _) _)
 have HI : Hid ((((w.alloc (.cells #[.slice A ns.length c, .int .i64 root, .slice F fr.length cf] 25)).alloc (.cells #[.int .i64 x1, .int .i64 x2, .int .i64 x3] 50)).alloc (.cells #[.slice none 0 0, .int .i64 0, .slice none 0 0] 25)).heap[w.heap.size + 1]? = some (.cells #[.int .i64 x1, .int .i64 x2, .int .i64 x3] 50 (0, 0))) := Lib.hid (by have := blk_alloc (blk_new (w.alloc (.cells #[.slice A ns.length c, .int .i64 root, .slice F fr.length cf] 25)) (.cells #[.int .i64 x1, .int .i64 x2, .int .i64 x3] 50 (0, 0))) (.cells #[.slice none 0 0, .int .i64 0, .slice none 0 0] 25); simpa using this)
 have HR : Hid ((((w.alloc (.cells #[.slice A ns.length c, .int .i64 root, .slice F fr.length cf] 25)).alloc (.cells #[.int .i64 x1, .int .i64 x2, .int .i64 x3] 50)).alloc (.cells #[.slice none 0 0, .int .i64 0, .slice none 0 0] 25)).heap[w.heap.size + 1 + 1]? = some (.cells #[.slice none 0 0, .int .i64 0, .slice none 0 0] 25 (0, 0))) := Lib.hid (by have := blk_new ((w.alloc (.cells #[.slice A ns.length c, .int .i64 root, .slice F fr.length cf] 25)).alloc (.cells #[.int .i64 x1, .int .i64 x2, .int .i64 x3] 50)) (.cells #[.slice none 0 0, .int .i64 0, .slice none 0 0] 25 (0, 0)); simpa using this)
 have HM := Lib.hid (may_tree A c ns root F cf fr (((w.alloc (.cells #[.slice A ns.length c, .int .i64 root, .slice F fr.length cf] 25)).alloc (.cells #[.int .i64 x1, .int .i64 x2, .int .i64 x3] 50)).alloc (.cells #[.slice none 0 0, .int .i64 0, .slice none 0 0] 25)) (Kd.C_below hr HB.out) (Kd.C_below hf HB.out) hlf)
 have HCN : Hid (∀ W', Below w.heap.size w W' → Kd.C k64 W' A ns.length ns) := Lib.hid fun W' hb => Kd.C_below hr hb
 have HCF : Hid (∀ W', Below w.heap.size w W' → Kd.C (Kd.int .i64) W' F fr.length fr) := Lib.hid fun W' hb => Kd.C_below hf hb
 have p0 := blk_cell HT.out 0
 have p1 := blk_cell HT.out 1
 have p2 := blk_cell HT.out 2
 simp at p0 p1 p2
 clear hr hf
 cases hmay : mayT (cellN ns) ns.length root fr with
 | false =>
  have HV := Lib.hid (delF_no (x := ⟨x1, x2, x3⟩) hmay)
  rw [hmay] at HM
  clear hmay
  go_enter Try.func30, Try.ntmps30
  go_wp2_with fail
  generalize (((w.alloc (.cells #[.slice A ns.length c, .int .i64 root, .slice F fr.length cf] 25)).alloc (.cells #[.int .i64 x1, .int .i64 x2, .int .i64 x3] 50)).alloc (.cells #[.slice none 0 0, .int .i64 0, .slice none 0 0] 25)) = w3 at *
  refine HM.out.mono ?_
  rintro e w4 ⟨rfl, hb4⟩
  replace HT := Lib.hid (blk_below HT.out hb4)
  replace HI := Lib.hid (blk_below HI.out hb4)
  replace HR := Lib.hid (blk_below HR.out hb4)
  replace HB := Lib.hid (below_then HB.out HB.out.size hb4)
  clear hb4
  clear HM p0 p1 p2
  have r0 := blk_cell HR.out 0
  have r1 := blk_cell HR.out 1
  have r2 := blk_cell HR.out 2
  simp at r0 r1 r2
  have f0 := blk_frozen HR.out 0
  have f1 := blk_frozen HR.out 1
  have f2 := blk_frozen HR.out 2
  go_wp2_with fail
  have hq := blk_set (blk_set (blk_set HR.out 0 (.slice none 0 0)) 1 (.int .i64 0)) 2 (.slice none 0 0)
  have q0 := blk_cell hq 0
  have q1 := blk_cell hq 1
  have q2 := blk_cell hq 2
  simp at q0 q1 q2
  exact bodyPost_ret (v := .tuple #[.agg #[.slice none 0 0, .int .i64 0, .slice none 0 0], .int .i64 1700]) (by simp [results, Try.results30, go_sem, q0, q1, q2]) rfl ⟨.slice none 0 0, .slice none 0 0, by rw [HV.out], by rw [HV.out]; exact Kd.R_nil _ _ _ _ _, by rw [HV.out]; exact Kd.R_nil _ _ _ _ _, ((HB.out.setCell (p := ⟨w.heap.size + 1 + 1, 0, none⟩) (by show w.heap.size ≤ w.heap.size + 1 + 1; omega) _).setCell (p := ⟨w.heap.size + 1 + 1, 1, none⟩) (by show w.heap.size ≤ w.heap.size + 1 + 1; omega) _).setCell (p := ⟨w.heap.size + 1 + 1, 2, none⟩) (by show w.heap.size ≤ w.heap.size + 1 + 1; omega) _⟩
 | true =>
  obtain ⟨t, ht⟩ := mayT_true.1 hmay
  have HTT := Lib.hid ht
  rw [hmay] at HM
  clear hmay ht
  go_enter Try.func30, Try.ntmps30
  go_wp2_with fail
  generalize (((w.alloc (.cells #[.slice A ns.length c, .int .i64 root, .slice F fr.length cf] 25)).alloc (.cells #[.int .i64 x1, .int .i64 x2, .int .i64 x3] 50)).alloc (.cells #[.slice none 0 0, .int .i64 0, .slice none 0 0] 25)) = w3 at *
  refine HM.out.mono ?_
  rintro e w4 ⟨rfl, hb4⟩
  replace HT := Lib.hid (blk_below HT.out hb4)
  replace HI := Lib.hid (blk_below HI.out hb4)
  replace HR := Lib.hid (blk_below HR.out hb4)
  replace HB := Lib.hid (below_then HB.out HB.out.size hb4)
  clear hb4
  clear HM p0 p1 p2
  have p0 := blk_cell HT.out 0
  have p1 := blk_cell HT.out 1
  have p2 := blk_cell HT.out 2
  simp at p0 p1 p2
  have HOW := Lib.hid (own_is A c ns root F cf fr w4 (HCN.out _ HB.out) (HCF.out _ HB.out) (by have := HTT.out.size; omega) (by have := HTT.out.free_le; omega))
  go_wp2_with fail
  refine HOW.out.mono ?_
  rintro e w6 ⟨q, A2, c2, vf2, rfl, hA6, hb6, _⟩
  have HSZ : Hid (w.heap.size + 1 + 1 < w4.heap.size) := Lib.hid (blk_lt HR.out)
  have HBS : Hid (w.heap.size ≤ w4.heap.size) := Lib.hid HB.out.size
  have HA6 := Lib.hid hA6
  replace HT := Lib.hid (blk_below HT.out hb6)
  replace HI := Lib.hid (blk_below HI.out hb6)
  replace HR := Lib.hid (blk_below HR.out hb6)
  replace HB := Lib.hid (below_then HB.out HB.out.size hb6)
  clear hb6
  clear hA6 HOW p0 p1 p2
  generalize w4.heap.size = base at *
  have p0 := blk_cell HT.out 0
  have p1 := blk_cell HT.out 1
  have p2 := blk_cell HT.out 2
  simp at p0 p1 p2
  have i0 := blk_cell HI.out 0
  have i1 := blk_cell HI.out 1
  have i2 := blk_cell HI.out 2
  simp at i0 i1 i2
  have HHS := Lib.hid (has_is q A2 ns.length c2 (cellN ns) t root ⟨x1, x2, x3⟩ w6 HA6.out.hd (Rd.of_C (by obtain ⟨A_, c_, e_, _, hC_⟩ := Kd.R_reads HA6.out.nd; injection e_ with e_ _ _; subst e_; rw [listN_length, listN_cellN] at hC_; exact hC_)) HTT.out.good.hang HTT.out.good.within HTT.out.row)
  go_wp2_with fail
  refine HHS.out.mono ?_
  rintro e w7 ⟨rfl, hb7⟩
  have HA7 := Lib.hid (HA6.out.below hb7)
  replace HT := Lib.hid (blk_below HT.out hb7)
  replace HI := Lib.hid (blk_below HI.out hb7)
  replace HR := Lib.hid (blk_below HR.out hb7)
  replace HB := Lib.hid (below_then HB.out HB.out.size hb7)
  clear hb7
  clear HHS HA6 p0 p1 p2 i0 i1 i2
  by_cases hm : (⟨x1, x2, x3⟩ : Itm) ∈ items t
  case neg =>
   have HV := Lib.hid (delF_none HTT.out hm)
   have hdm := decide_eq_false hm
   rw [hdm]
   clear hm hdm
   have r0 := blk_cell HR.out 0
   have r1 := blk_cell HR.out 1
   have r2 := blk_cell HR.out 2
   simp at r0 r1 r2
   have f0 := blk_frozen HR.out 0
   have f1 := blk_frozen HR.out 1
   have f2 := blk_frozen HR.out 2
   go_wp2_with fail
   have hq := blk_set (blk_set (blk_set HR.out 0 (.slice none 0 0)) 1 (.int .i64 0)) 2 (.slice none 0 0)
   have q0 := blk_cell hq 0
   have q1 := blk_cell hq 1
   have q2 := blk_cell hq 2
   simp at q0 q1 q2
   exact bodyPost_ret (v := .tuple #[.agg #[.slice none 0 0, .int .i64 0, .slice none 0 0], .int .i64 1702]) (by simp [results, Try.results30, go_sem, q0, q1, q2]) rfl ⟨.slice none 0 0, .slice none 0 0, by rw [HV.out], by rw [HV.out]; exact Kd.R_nil _ _ _ _ _, by rw [HV.out]; exact Kd.R_nil _ _ _ _ _, ((HB.out.setCell (p := ⟨w.heap.size + 1 + 1, 0, none⟩) (by show w.heap.size ≤ w.heap.size + 1 + 1; omega) _).setCell (p := ⟨w.heap.size + 1 + 1, 1, none⟩) (by show w.heap.size ≤ w.heap.size + 1 + 1; omega) _).setCell (p := ⟨w.heap.size + 1 + 1, 2, none⟩) (by show w.heap.size ≤ w.heap.size + 1 + 1; omega) _⟩
  case pos =>
   have HV := Lib.hid (delF_ok HTT.out hm)
   have hdm := decide_eq_true hm
   rw [hdm]
   clear hdm
   have hnn : 0 < ns.length := by
    have h1 := HTT.out.count
    have h2 := List.length_pos_of_mem hm
    omega
   obtain ⟨g, rfl, _, _, _⟩ := HA7.out.nds hnn
   obtain ⟨fn, hfn⟩ := HTT.out.frees
   have HBL := Lib.hid hfn.blanks
   have HMD : Hid (∀ s, s ∈ places t ↔ s = gone t ⟨x1, x2, x3⟩ ∨ s ∈ places (drop t ⟨x1, x2, x3⟩)) := Lib.hid (fun s => mem_drop HTT.out.row hm)
   have HDR := Lib.hid (drop_is t w7.drew base q g ns.length c2 (cellN ns) vf2 fr root ⟨x1, x2, x3⟩ root (HA7.out.below (below_drew (Below.refl _ _))) (by have := HTT.out.free_le; omega) HTT.out.good.hang HTT.out.good.nodup HTT.out.good.within HTT.out.row hm HTT.out.good.bal (by have := HTT.out.low; omega))
   clear hm hfn hnn
   have p0 := blk_cell HT.out 0
   have p1 := blk_cell HT.out 1
   have p2 := blk_cell HT.out 2
   simp at p0 p1 p2
   have i0 := blk_cell HI.out 0
   have i1 := blk_cell HI.out 1
   have i2 := blk_cell HI.out 2
   simp at i0 i1 i2
   have a1 := blk_cell HA7.out.blk 1
   simp at a1
   go_wp2_with fail
   go_region_with (first
     | (go_at_call 62; refine HDR.out.mono ?_; rintro e w8 ⟨rfl, hb8, a8, vf8, hA8, hg8, ho8, hz8⟩; have HB8 : Hid (Below base w7 w8) := Lib.hid ((below_drew (Below.refl _ _)).trans hb8); have HA8 := Lib.hid hA8; have HG8 := Lib.hid hg8; have HO8 := Lib.hid ho8; have HZ8 := Lib.hid hz8; have a81 := blk_cell hA8.blk 1; have f81 := blk_frozen hA8.blk 1; simp at a81; clear hb8 hA8 hg8 ho8 hz8))
   all_goals
    have HR8 := Lib.hid ((HB8.out.block _ HSZ.out).trans HR.out)
    have HB9 : Hid (Below w.heap.size w w8) := Lib.hid (HB.out.trans (HB8.out.mono HBS.out))
    have HA9 := Lib.hid (HA8.out.root (plc (drop t ⟨x1, x2, x3⟩)))
    have hqb : base ≤ q := HA8.out.hq
    have HR9 : Hid ((w8.setCell ⟨q, 1, none⟩ (.int .i64 (plc (drop t ⟨x1, x2, x3⟩)))).heap[w.heap.size + 1 + 1]? = some (.cells #[.slice none 0 0, .int .i64 0, .slice none 0 0] 25 (0, 0))) := Lib.hid (blk_far HR8.out (by show w.heap.size + 1 + 1 ≠ q; have := HSZ.out; omega) _)
    have HBA : Hid (Below w.heap.size w (w8.setCell ⟨q, 1, none⟩ (.int .i64 (plc (drop t ⟨x1, x2, x3⟩))))) := Lib.hid (HB9.out.setCell (p := ⟨q, 1, none⟩) (by show w.heap.size ≤ q; have := HBS.out; omega) _)
    clear p0 p1 p2 i0 i1 i2 a1 a81 f81 HR8 HB9 HDR HA7 HT HI HR HB HB8 HA8
    have HNE : Hid (nodesOf ns.length (drop t ⟨x1, x2, x3⟩) = listN ns.length a8) := Lib.hid (nodesOf_is HG8.out (fun s hs hm k hk => by
     by_cases e : s ∈ places t
     ·rcases (HMD.out s).1 e with g | g
      ·rw [g]; exact HZ8.out k hk
      ·exact absurd g hm
     ·rw [HO8.out s e k hk]; exact HBL.out s hs e k hk))
    generalize w8.setCell ⟨q, 1, none⟩ (.int .i64 (plc (drop t ⟨x1, x2, x3⟩))) = w9 at *
    have g0 := blk_cell HA9.out.blk 0
    have g1 := blk_cell HA9.out.blk 1
    have g2 := blk_cell HA9.out.blk 2
    have hAf := Kd.R_slice HA9.out.fr
    obtain ⟨Af, cff, rfl⟩ := hAf
    simp at g0 g1 g2
    have r0 := blk_cell HR9.out 0
    have r1 := blk_cell HR9.out 1
    have r2 := blk_cell HR9.out 2
    simp at r0 r1 r2
    have f0 := blk_frozen HR9.out 0
    have f1 := blk_frozen HR9.out 1
    have f2 := blk_frozen HR9.out 2
    generalize plc (drop t ⟨x1, x2, x3⟩) = rt at *
    have e10 : (fr ++ [((gone t ⟨x1, x2, x3⟩ : Nat) : Int)]).length = fr.length + 1 := by simp
    rw [e10] at HA9
    have hrows := HA9.out.rows HR9.out HBS.out (.slice (some ⟨g, 0, none⟩) ns.length c2) (.int .i64 rt) (.slice Af (fr.length + 1) cff)
    have HRW := Lib.hid hrows
    clear hrows e10
    go_wp2_with fail
    have hq := blk_set (blk_set (blk_set HR9.out 0 (.slice (some ⟨g, 0, none⟩) ns.length c2)) 1 (.int .i64 rt)) 2 (.slice Af (fr.length + 1) cff)
    have q0 := blk_cell hq 0
    have q1 := blk_cell hq 1
    have q2 := blk_cell hq 2
    simp at q0 q1 q2
    exact bodyPost_ret (v := .tuple #[.agg #[.slice (some ⟨g, 0, none⟩) ns.length c2, .int .i64 rt, .slice Af (fr.length + 1) cff], .int .i64 0]) (by simp [results, Try.results30, go_sem, q0, q1, q2]) rfl ⟨_, _, by rw [HV.out], by rw [HV.out, HNE.out]; exact HRW.out.1, by rw [HV.out]; exact HRW.out.2, ((HBA.out.setCell (p := ⟨w.heap.size + 1 + 1, 0, none⟩) (by show w.heap.size ≤ w.heap.size + 1 + 1; omega) _).setCell (p := ⟨w.heap.size + 1 + 1, 1, none⟩) (by show w.heap.size ≤ w.heap.size + 1 + 1; omega) _).setCell (p := ⟨w.heap.size + 1 + 1, 2, none⟩) (by show w.heap.size ≤ w.heap.size + 1 + 1; omega) _⟩
noncomputable def tree_Items.f (l0_0 : List Nd) (a0_1 : Int) (l0_2 : List Int) : Option (List It × Int) := if l0_2.length < 17592186044416 then some (itemsF l0_0 a0_1 l0_2) else none
theorem tree_Items.calls (A0_0 : Option Addr) (c0_0 : Nat) (l0_0 : List Nd) (a0_1 : Int) (A0_2 : Option Addr) (c0_2 : Nat) (l0_2 : List Int) (r1 : List It) (r2 : Int) (w : World) (hr0_0 : Kd.C k64 w A0_0 l0_0.length l0_0) (hc0_0 : l0_0.length ≤ c0_0) (hr0_2 : Kd.C (Kd.int .i64) w A0_2 l0_2.length l0_2) (hc0_2 : l0_2.length ≤ c0_2) (h : tree_Items.f l0_0 a0_1 l0_2 = some (r1, r2)) :
  Calls Try.prog 13 #[.agg #[.slice A0_0 l0_0.length c0_0, .int .i64 a0_1, .slice A0_2 l0_2.length c0_2]] w fun e w' => ∃ v0_ : Value, e = .returned (.tuple #[v0_, .int .i64 r2]) ∧ Kd.R k50 50 w' w.heap.size (fun _ => True) v0_ r1 ∧ Below w.heap.size w w' := by
 unfold tree_Items.f at h
 split at h
 ·simp only [Option.some.injEq] at h
  have h1 : (itemsF l0_0 a0_1 l0_2).1 = r1 := by rw [h]
  have h2 : (itemsF l0_0 a0_1 l0_2).2 = r2 := by rw [h]
  subst h1 h2
  exact items_tree A0_0 c0_0 l0_0 a0_1 A0_2 c0_2 l0_2 w hr0_0 hr0_2 (by omega)
 ·cases h
noncomputable def tree_Insert.f (l0_0 : List Nd) (a0_1 : Int) (l0_2 : List Int) (a1_0 a1_1 a1_2 : Int) : Option (List Nd × Int × List Int × Int) := if l0_2.length < 17592186044416 then some ((insF l0_0 a0_1 l0_2 ⟨a1_0, a1_1, a1_2⟩).1.1, (insF l0_0 a0_1 l0_2 ⟨a1_0, a1_1, a1_2⟩).1.2.1, (insF l0_0 a0_1 l0_2 ⟨a1_0, a1_1, a1_2⟩).1.2.2, (insF l0_0 a0_1 l0_2 ⟨a1_0, a1_1, a1_2⟩).2) else none
theorem tree_Insert.calls (A0_0 : Option Addr) (c0_0 : Nat) (l0_0 : List Nd) (a0_1 : Int) (A0_2 : Option Addr) (c0_2 : Nat) (l0_2 : List Int) (a1_0 a1_1 a1_2 : Int) (r1 : List Nd) (r2 : Int) (r3 : List Int) (r4 : Int) (w : World) (hr0_0 : Kd.C k64 w A0_0 l0_0.length l0_0) (hc0_0 : l0_0.length ≤ c0_0) (hr0_2 : Kd.C (Kd.int .i64) w A0_2 l0_2.length l0_2) (hc0_2 : l0_2.length ≤ c0_2) (h : tree_Insert.f l0_0 a0_1 l0_2 a1_0 a1_1 a1_2 = some (r1, r2, r3, r4)) :
  Calls Try.prog 26 #[.agg #[.slice A0_0 l0_0.length c0_0, .int .i64 a0_1, .slice A0_2 l0_2.length c0_2], .agg #[.int .i64 a1_0, .int .i64 a1_1, .int .i64 a1_2]] w fun e w' => ∃ v0_ v2_ : Value, e = .returned (.tuple #[.agg #[v0_, .int .i64 r2, v2_], .int .i64 r4]) ∧ Kd.R k64 64 w' w.heap.size (fun _ => True) v0_ r1 ∧ Kd.R (Kd.int .i64) 3 w' w.heap.size (fun _ => True) v2_ r3 ∧ Below w.heap.size w w' := by
 unfold tree_Insert.f at h
 split at h
 ·simp only [Option.some.injEq, Prod.mk.injEq] at h
  obtain ⟨rfl, rfl, rfl, rfl⟩ := h
  exact insert_tree A0_0 c0_0 l0_0 a0_1 A0_2 c0_2 l0_2 a1_0 a1_1 a1_2 w hr0_0 hr0_2 (by omega)
 ·cases h
noncomputable def tree_Delete.f (l0_0 : List Nd) (a0_1 : Int) (l0_2 : List Int) (a1_0 a1_1 a1_2 : Int) : Option (List Nd × Int × List Int × Int) := if l0_2.length < 17592186044416 then some ((delF l0_0 a0_1 l0_2 ⟨a1_0, a1_1, a1_2⟩).1.1, (delF l0_0 a0_1 l0_2 ⟨a1_0, a1_1, a1_2⟩).1.2.1, (delF l0_0 a0_1 l0_2 ⟨a1_0, a1_1, a1_2⟩).1.2.2, (delF l0_0 a0_1 l0_2 ⟨a1_0, a1_1, a1_2⟩).2) else none
theorem tree_Delete.calls (A0_0 : Option Addr) (c0_0 : Nat) (l0_0 : List Nd) (a0_1 : Int) (A0_2 : Option Addr) (c0_2 : Nat) (l0_2 : List Int) (a1_0 a1_1 a1_2 : Int) (r1 : List Nd) (r2 : Int) (r3 : List Int) (r4 : Int) (w : World) (hr0_0 : Kd.C k64 w A0_0 l0_0.length l0_0) (hc0_0 : l0_0.length ≤ c0_0) (hr0_2 : Kd.C (Kd.int .i64) w A0_2 l0_2.length l0_2) (hc0_2 : l0_2.length ≤ c0_2) (h : tree_Delete.f l0_0 a0_1 l0_2 a1_0 a1_1 a1_2 = some (r1, r2, r3, r4)) :
  Calls Try.prog 30 #[.agg #[.slice A0_0 l0_0.length c0_0, .int .i64 a0_1, .slice A0_2 l0_2.length c0_2], .agg #[.int .i64 a1_0, .int .i64 a1_1, .int .i64 a1_2]] w fun e w' => ∃ v0_ v2_ : Value, e = .returned (.tuple #[.agg #[v0_, .int .i64 r2, v2_], .int .i64 r4]) ∧ Kd.R k64 64 w' w.heap.size (fun _ => True) v0_ r1 ∧ Kd.R (Kd.int .i64) 3 w' w.heap.size (fun _ => True) v2_ r3 ∧ Below w.heap.size w w' := by
 unfold tree_Delete.f at h
 split at h
 ·simp only [Option.some.injEq, Prod.mk.injEq] at h
  obtain ⟨rfl, rfl, rfl, rfl⟩ := h
  exact delete_tree A0_0 c0_0 l0_0 a0_1 A0_2 c0_2 l0_2 a1_0 a1_1 a1_2 w hr0_0 hr0_2 (by omega)
 ·cases h
end Go.Proofs.Ytgkjpffbgnljeaa.Man
/- arena.meets: the items that hang at a place and meet a span, behind others. -/
set_option linter.unusedVariables false
set_option linter.unusedSimpArgs false
namespace Go.Proofs.Ytgkjpffbgnljeaa.Man
open Go.RowKit Go.Proofs.Ytgkjpffbgnljeaa.QT Go.Proofs.Ytgkjpffbgnljeaa.TreeM Go.Proofs.YtgkjpffbgnljeaaW.PrintWords Go.Proofs.YtgkjpffbgnljeaaW.PrintLast Go.Proofs.YtgkjpffbgnljeaaW.PrintMore
def meetF (s0 s1 : Int) (x : Itm) : Bool := (bothF x.fr x.to_ s0 s1).2.2
theorem meetF_true {s0 s1 : Int} {x : Itm} (h : meetF s0 s1 x = true) : x.fr < s1 ∧ s0 < x.to_ := by
 unfold meetF bothF at h
 split at h
 case isFalse => cases h
 split at h
 case isFalse => cases h
 split at h
 case isFalse => cases h
 rename_i h1 h2 h3
 rw [mayF_true] at h1 h2 h3
 unfold mx mn at h3
 split at h3 <;> split at h3 <;> omega
def meetsT (s0 s1 : Int) (t : T) : List Itm := (items t).filter (meetF s0 s1)
theorem le_most : ∀ (t : T), ∀ x ∈ items t, x.to_ ≤ most t
 | .nil, x, h => by simp [items] at h
 | .node p y l r, x, h => by
  have h : x ∈ items l ++ y :: items r := h
  simp only [most]
  rcases List.mem_append.1 h with h | h
  ·have := le_most l x h; omega
  ·rcases List.mem_cons.1 h with rfl | h
   ·omega
   ·have := le_most r x h; omega
theorem meets_none {s0 s1 : Int} {t : T} (h : most t ≤ s0) : meetsT s0 s1 t = [] := by
 unfold meetsT
 rw [List.filter_eq_nil_iff]
 intro x hx hm
 have := (meetF_true hm).2
 have := le_most t x hx
 omega
theorem meets_right {s0 s1 : Int} {p : Nat} {y : Itm} {l r : T} (hr : Row (items (.node p y l r))) (h : ¬ y.fr < s1) : meetsT s0 s1 r = [] := by
 unfold meetsT
 rw [List.filter_eq_nil_iff]
 intro x hx hm
 have h1 := (meetF_true hm).1
 have hr' : Row (items l ++ y :: items r) := hr
 have h2 : lt y x := (row_parts hr').2.2.2 x hx
 unfold lt at h2
 omega
theorem meets_node (s0 s1 : Int) (p : Nat) (y : Itm) (l r : T) : meetsT s0 s1 (.node p y l r) = meetsT s0 s1 l ++ (if meetF s0 s1 y = true then [y] else []) ++ meetsT s0 s1 r := by
 unfold meetsT
 show (items l ++ y :: items r).filter _ = _
 rw [List.filter_append, List.filter_cons]
 split <;> simp
def Meetss (W0 W : World) (q : Nat) (i s0 s1 : Int) (v : Value) (P : Nat → Prop) (out : List It) (t : T) : Prop :=
 Calls Try.prog 48 #[.pointer (some ⟨q, 0, none⟩), .int .i64 i, .agg #[.int .i64 s0, .int .i64 s1], v] W fun e W' => ∃ v' : Value, e = .returned v' ∧ Kd.R k50 50 W' W0.heap.size (fun k => P k ∨ W.heap.size ≤ k) v' (out ++ (meetsT s0 s1 t).map toI) ∧ Below W0.heap.size W0 W' ∧ Kept W W' P
set_option maxHeartbeats 2000000 in
set_option maxRecDepth 100000 in
theorem meets_nil (W0 W : World) (q : Nat) (s0 s1 : Int) (Av : Option Addr) (cv : Nat) (P : Nat → Prop) (out : List It) (hB : Below W0.heap.size W0 W) (ho : Kd.R k50 50 W W0.heap.size P (.slice Av out.length cv) out) :
  Meetss W0 W q (-1) s0 s1 (.slice Av out.length cv) P out .nil := by
 have HO := Lib.hid ho
 have HB := Lib.hid hB
 have HBA : Hid (Below W.heap.size W (W.alloc (.cells #[.int .i64 s0, .int .i64 s1] 27))) := Lib.hid ((Below.refl _ _).alloc (Nat.le_refl _) _)
 clear ho hB
 unfold Meetss
 go_enter Try.func48, Try.ntmps48
 go_wp2_with fail
 refine wp_region_later (by kernel_rfl) (by kernel_rfl) ?_
 repeat (go_big_quiet_step (fail))
 refine wpQuiet_nil ?_
 rintro _ ⟨xl, rfl⟩
 have HBX := Lib.hid (below_then HBA.out HBA.out.size xl.below)
 go_wp2_with fail
 go_ret
 exact ⟨_, rfl, by rw [show out ++ (meetsT s0 s1 .nil).map toI = out by simp [meetsT, items]]; exact Kd.R_mono (Kd.R_below HO.out HBX.out) (fun k hk => .inl hk), below_then HB.out HB.out.size HBX.out, Kept.of_below HBX.out _⟩
set_option maxHeartbeats 2000000 in
set_option maxRecDepth 100000 in
theorem meets_low (W0 W : World) (q : Nat) (A : Option Addr) (nn cn : Nat) (a : Cells) (s0 s1 : Int) (Av : Option Addr) (cv : Nat) (P : Nat → Prop) (out : List It) (p : Nat) (y : Itm) (l r : T) (hq : Hd W0 q (.slice A nn cn)) (hn : Rd W0 A nn a) (hB : Below W0.heap.size W0 W) (ho : Kd.R k50 50 W W0.heap.size P (.slice Av out.length cv) out) (hh : Hang a (.node p y l r) (p : Int)) (hw : Within nn (.node p y l r)) (hrow : Row (items (.node p y l r))) (hm : most (.node p y l r) ≤ s0) :
  Meetss W0 W q (p : Int) s0 s1 (.slice Av out.length cv) P out (.node p y l r) := by
 have HM := Lib.hid (meets_none (s1 := s1) hm)
 have hp : p < nn := hw.p
 obtain ⟨ad, eA, m0, mk⟩ := hn.at hp
 subst eA
 obtain ⟨_, ⟨i0, i1, i2⟩, hhl, hhr, i5, i6⟩ := hh
 have HBA : Hid (Below W.heap.size W (W.alloc (.cells #[.int .i64 s0, .int .i64 s1] 27))) := Lib.hid ((Below.refl _ _).alloc (Nat.le_refl _) _)
 have HX := Lib.hid (blk_new W (.cells #[.int .i64 s0, .int .i64 s1] 27 (0, 0)))
 have HB1 : Hid (Below W0.heap.size W0 (W.alloc (.cells #[.int .i64 s0, .int .i64 s1] 27))) := Lib.hid (below_then hB hB.size HBA.out)
 have m6 := mk 6 (by omega) (by omega)
 rw [i6] at m6
 have z0 : ∀ x : Later (W.alloc (.cells #[.int .i64 s0, .int .i64 s1] 27)), x.at.cell? ⟨W.heap.size, 0, none⟩ = some (.int .i64 s0) := fun x => Later.cell (by rw [blk_cell HX.out 0]; rfl) x
 have zq : ∀ x : Later (W.alloc (.cells #[.int .i64 s0, .int .i64 s1] 27)), x.at.cell? ⟨q, 0, none⟩ = some (.slice (some ad) nn cn) := Later.cell (hq.below HB1.out).cell
 have n6 : ∀ x : Later (W.alloc (.cells #[.int .i64 s0, .int .i64 s1] 27)), x.at.cell? ⟨(ad.add (p * 7)).block, (ad.add (p * 7)).off + 6, none⟩ = some (.int .i64 (most (.node p y l r))) := Later.cell (pw_cell_below HB1.out m6)
 have hpm : ((p : Int) == -1) = false := by simp
 have h0 : (0 : Int) ≤ (p : Int) := by omega
 have h1 : (p : Int) < (nn : Int) := by omega
 have HO := Lib.hid ho
 have HB := Lib.hid hB
 clear ho hB hq hn hhl hhr hw hrow i0 i1 i2 i5 i6 mk m0 m6
 unfold Meetss
 generalize most (.node p y l r) = mo at *
 go_enter Try.func48, Try.ntmps48
 go_wp2_with fail
 refine wp_region_later (by kernel_rfl) (by kernel_rfl) ?_
 repeat (go_big_quiet_step (fail))
 refine wpQuiet_nil ?_
 rintro _ ⟨xl, rfl⟩
 have HBX := Lib.hid (below_then HBA.out HBA.out.size xl.below)
 clear z0 zq n6
 go_wp2_with fail
 go_ret
 exact ⟨_, rfl, by rw [HM.out, List.map_nil, List.append_nil]; exact Kd.R_mono (Kd.R_below HO.out HBX.out) (fun k hk => .inl hk), below_then HB.out HB.out.size HBX.out, Kept.of_below HBX.out _⟩
set_option maxHeartbeats 8000000 in
set_option maxRecDepth 100000 in
theorem meets_in (W0 W : World) (q : Nat) (A : Option Addr) (nn cn : Nat) (a : Cells) (s0 s1 : Int) (Av : Option Addr) (cv : Nat) (P : Nat → Prop) (out : List It) (p : Nat) (y : Itm) (l r : T) (hq : Hd W0 q (.slice A nn cn)) (hn : Rd W0 A nn a) (hB : Below W0.heap.size W0 W) (ho : Kd.R k50 50 W W0.heap.size P (.slice Av out.length cv) out) (hh : Hang a (.node p y l r) (p : Int)) (hw : Within nn (.node p y l r)) (hrow : Row (items (.node p y l r))) (hm : ¬ most (.node p y l r) ≤ s0) (hP : ∀ k, P k → k < W.heap.size) (hlen : out.length + (items (.node p y l r)).length ≤ 1000000)
  (ihl : ∀ W' P' Av' cv' out', Below W0.heap.size W0 W' → Kd.R k50 50 W' W0.heap.size P' (.slice Av' out'.length cv') out' → (∀ k, P' k → k < W'.heap.size) → out'.length + (items l).length ≤ 1000000 → Meetss W0 W' q (a (p * 7 + 3)) s0 s1 (.slice Av' out'.length cv') P' out' l)
  (ihr : ∀ W' P' Av' cv' out', Below W0.heap.size W0 W' → Kd.R k50 50 W' W0.heap.size P' (.slice Av' out'.length cv') out' → (∀ k, P' k → k < W'.heap.size) → out'.length + (items r).length ≤ 1000000 → Meetss W0 W' q (a (p * 7 + 4)) s0 s1 (.slice Av' out'.length cv') P' out' r) :
  Meetss W0 W q (p : Int) s0 s1 (.slice Av out.length cv) P out (.node p y l r) := by
 have hp : p < nn := hw.p
 obtain ⟨ad, eA, m0, mk⟩ := hn.at hp
 subst eA
 obtain ⟨_, ⟨i0, i1, i2⟩, hhl, hhr, i5, i6⟩ := hh
 have HBA : Hid (Below W.heap.size W (W.alloc (.cells #[.int .i64 s0, .int .i64 s1] 27))) := Lib.hid ((Below.refl _ _).alloc (Nat.le_refl _) _)
 have HX := Lib.hid (blk_new W (.cells #[.int .i64 s0, .int .i64 s1] 27 (0, 0)))
 have HB1 : Hid (Below W0.heap.size W0 (W.alloc (.cells #[.int .i64 s0, .int .i64 s1] 27))) := Lib.hid (below_then hB hB.size HBA.out)
 have m6 := mk 6 (by omega) (by omega)
 rw [i6] at m6
 have z0 : ∀ x : Later (W.alloc (.cells #[.int .i64 s0, .int .i64 s1] 27)), x.at.cell? ⟨W.heap.size, 0, none⟩ = some (.int .i64 s0) := fun x => Later.cell (by rw [blk_cell HX.out 0]; rfl) x
 have zq : ∀ x : Later (W.alloc (.cells #[.int .i64 s0, .int .i64 s1] 27)), x.at.cell? ⟨q, 0, none⟩ = some (.slice (some ad) nn cn) := Later.cell (hq.below HB1.out).cell
 have n6 : ∀ x : Later (W.alloc (.cells #[.int .i64 s0, .int .i64 s1] 27)), x.at.cell? ⟨(ad.add (p * 7)).block, (ad.add (p * 7)).off + 6, none⟩ = some (.int .i64 (most (.node p y l r))) := Later.cell (pw_cell_below HB1.out m6)
 have hpm : ((p : Int) == -1) = false := by simp
 have h0 : (0 : Int) ≤ (p : Int) := by omega
 have h1 : (p : Int) < (nn : Int) := by omega
 have HO := Lib.hid ho
 have HB := Lib.hid hB
 have hmm : s0 < most (.node p y l r) := by omega
 have HPW := Lib.hid hP
 have hitl : (items (.node p y l r)).length = (items l).length + 1 + (items r).length := by show (items l ++ y :: items r).length = _; simp; omega
 obtain ⟨k0, e0⟩ : ∃ k0, a (p * 7) = k0 := ⟨_, rfl⟩
 obtain ⟨k1, e1⟩ : ∃ k1, a (p * 7 + 1) = k1 := ⟨_, rfl⟩
 obtain ⟨k2, e2⟩ : ∃ k2, a (p * 7 + 2) = k2 := ⟨_, rfl⟩
 obtain ⟨k3, e3⟩ : ∃ k3, a (p * 7 + 3) = k3 := ⟨_, rfl⟩
 obtain ⟨k4, e4⟩ : ∃ k4, a (p * 7 + 4) = k4 := ⟨_, rfl⟩
 obtain ⟨k5, e5⟩ : ∃ k5, a (p * 7 + 5) = k5 := ⟨_, rfl⟩
 obtain ⟨k6, e6⟩ : ∃ k6, a (p * 7 + 6) = k6 := ⟨_, rfl⟩
 have hy : y = ⟨k0, k1, k2⟩ := by obtain ⟨y0, y1, y2⟩ := y; simp only at i0 i1 i2; rw [← e0, ← e1, ← e2, i0, i1, i2]
 have HI1 : Hid (∀ W' P' Av' cv' out', Below W0.heap.size W0 W' → Kd.R k50 50 W' W0.heap.size P' (.slice Av' out'.length cv') out' → (∀ k, P' k → k < W'.heap.size) → out'.length + (items l).length ≤ 1000000 → Meetss W0 W' q k3 s0 s1 (.slice Av' out'.length cv') P' out' l) := Lib.hid (by rw [← e3]; exact ihl)
 have HI2 : Hid (∀ W' P' Av' cv' out', Below W0.heap.size W0 W' → Kd.R k50 50 W' W0.heap.size P' (.slice Av' out'.length cv') out' → out'.length ≤ 1000000 - (items r).length → Meetss W0 W' q k4 s0 s1 (.slice Av' out'.length cv') P' out' r) := Lib.hid (by rw [← e4]; exact fun W' P' Av' cv' out' g1 g2 g3 => (ihr W' (fun k => P' k ∧ k < W'.heap.size) Av' cv' out' g1 (Kd.R_mono (Kd.R_bound g2) (fun k hk => ⟨hk.1, hk.2.2.1⟩)) (fun k hk => hk.2) (by omega)).mono (fun e w' ⟨v', h1, h2, h3, h4⟩ => ⟨v', h1, Kd.R_mono h2 (fun k hk => hk.elim (fun h => .inl h.1) .inr), h3, h4.mono (fun k hk => hk.1)⟩))
 have HND := Lib.hid (meets_node s0 s1 p y l r)
 have HRI : Hid (¬ k0 < s1 → meetsT s0 s1 r = []) := Lib.hid (fun h => meets_right hrow (by rw [hy]; exact h))
 rw [hy] at HND
 have HC := Lib.hid (And.intro m0 mk)
 have HQ0 := Lib.hid hq
 have HL1 : Hid (out.length + ((items l).length + 1 + (items r).length) ≤ 1000000) := Lib.hid (by omega)
 have HE : Hid (a (p * 7) = k0 ∧ a (p * 7 + 1) = k1 ∧ a (p * 7 + 2) = k2 ∧ a (p * 7 + 3) = k3 ∧ a (p * 7 + 4) = k4 ∧ a (p * 7 + 5) = k5 ∧ a (p * 7 + 6) = k6) := Lib.hid ⟨e0, e1, e2, e3, e4, e5, e6⟩
 have HYE := Lib.hid hy
 clear ho hB hq hn hhl hhr hw hrow i0 i1 i2 i5 i6 mk m0 m6 hm hP hlen ihl ihr hitl e0 e1 e2 e3 e4 e5 e6 hy
 unfold Meetss
 obtain ⟨mo, emo⟩ : ∃ mo, most (.node p y l r) = mo := ⟨_, rfl⟩
 rw [emo] at n6 hmm
 clear emo
 go_enter Try.func48, Try.ntmps48
 go_wp2_with fail
 refine wp_region_later (by kernel_rfl) (by kernel_rfl) ?_
 repeat (go_big_quiet_step (fail))
 refine wpQuiet_nil ?_
 rintro _ ⟨xl, rfl⟩
 have HBX := Lib.hid (below_then HBA.out HBA.out.size xl.below)
 have HX2 := Lib.hid (blk_below HX.out xl.below)
 have HB2 := Lib.hid (below_then HB1.out HB1.out.size xl.below)
 have zq := zq xl
 clear z0 n6 HX HB1 HBA
 generalize xl.at = w2 at *
 clear xl
 have m0 := pw_cell_below HB2.out HC.out.1
 have m1 := pw_cell_below HB2.out (HC.out.2 1 (by omega) (by omega))
 have m2 := pw_cell_below HB2.out (HC.out.2 2 (by omega) (by omega))
 have m3 := pw_cell_below HB2.out (HC.out.2 3 (by omega) (by omega))
 have m4 := pw_cell_below HB2.out (HC.out.2 4 (by omega) (by omega))
 have m5 := pw_cell_below HB2.out (HC.out.2 5 (by omega) (by omega))
 have m6 := pw_cell_below HB2.out (HC.out.2 6 (by omega) (by omega))
 rw [HE.out.1] at m0
 rw [HE.out.2.1] at m1
 rw [HE.out.2.2.1] at m2
 rw [HE.out.2.2.2.1] at m3
 rw [HE.out.2.2.2.2.1] at m4
 rw [HE.out.2.2.2.2.2.1] at m5
 rw [HE.out.2.2.2.2.2.2] at m6
 have x0 := blk_cell HX2.out 0
 have x1 := blk_cell HX2.out 1
 simp at x0 x1
 have hlt2 : W.heap.size < w2.heap.size := blk_lt HX2.out
 have x0a : (w2.alloc (.cells #[.int .i64 k0, .int .i64 k1, .int .i64 k2, .int .i64 k3, .int .i64 k4, .int .i64 k5, .int .i64 k6] 64)).cell? ⟨W.heap.size, 0, none⟩ = some (.int .i64 s0) := pw_cell_below ((Below.refl _ _).alloc (Nat.le_refl _) _) x0
 have x1a : (w2.alloc (.cells #[.int .i64 k0, .int .i64 k1, .int .i64 k2, .int .i64 k3, .int .i64 k4, .int .i64 k5, .int .i64 k6] 64)).cell? ⟨W.heap.size, 1, none⟩ = some (.int .i64 s1) := pw_cell_below ((Below.refl _ _).alloc (Nat.le_refl _) _) x1
 go_wp2_with fail
 clear m0 m1 m2 m3 m4 m5 m6 x0 x1 x0a x1a zq
 have HBA2 : Hid (Below w2.heap.size w2 (w2.alloc (.cells #[.int .i64 k0, .int .i64 k1, .int .i64 k2, .int .i64 k3, .int .i64 k4, .int .i64 k5, .int .i64 k6] 64))) := Lib.hid ((Below.refl _ _).alloc (Nat.le_refl _) _)
 have HN2 := Lib.hid (blk_new w2 (.cells #[.int .i64 k0, .int .i64 k1, .int .i64 k2, .int .i64 k3, .int .i64 k4, .int .i64 k5, .int .i64 k6] 64 (0, 0)))
 have HX2a := Lib.hid (blk_below HX2.out HBA2.out)
 have HB2a := Lib.hid (below_then HB2.out HB2.out.size HBA2.out)
 have HKa : Hid (Kept W (w2.alloc (.cells #[.int .i64 k0, .int .i64 k1, .int .i64 k2, .int .i64 k3, .int .i64 k4, .int .i64 k5, .int .i64 k6] 64)) P) := Lib.hid (Kept.of_below (below_then HBX.out HBX.out.size HBA2.out) P)
 have HOa := Lib.hid (Kd.R_below HO.out (below_then HBX.out HBX.out.size HBA2.out))
 have HTB : Hid (¬ P w2.heap.size) := Lib.hid (fun h => by have := HPW.out _ h; omega)
 have HSB : Hid (¬ P W.heap.size) := Lib.hid (fun h => by have := HPW.out _ h; omega)
 have HSa : Hid (W.heap.size ≤ (w2.alloc (.cells #[.int .i64 k0, .int .i64 k1, .int .i64 k2, .int .i64 k3, .int .i64 k4, .int .i64 k5, .int .i64 k6] 64)).heap.size) := Lib.hid HKa.out.1
 clear HX2 HBX HBA2 HB2
 generalize w2.alloc (.cells #[.int .i64 k0, .int .i64 k1, .int .i64 k2, .int .i64 k3, .int .i64 k4, .int .i64 k5, .int .i64 k6] 64) = w3 at *
 generalize w2.heap.size = tb at *
 have HIL := Lib.hid (HI1.out w3 P Av cv out HB2a.out HOa.out (fun k hk => Nat.lt_of_lt_of_le (HPW.out k hk) HSa.out) (by have := HL1.out; omega))
 clear HOa
 refine HIL.out.mono ?_
 rintro e w4 ⟨v4, rfl, hr4, hb4, hk4⟩
 have hlm : ((meetsT s0 s1 l).map toI).length ≤ (items l).length := by rw [List.length_map]; exact List.length_filter_le _ _
 have HOL : Hid ((out ++ (meetsT s0 s1 l).map toI).length + (1 + (items r).length) ≤ 1000000) := Lib.hid (by have := HL1.out; rw [List.length_append]; omega)
 have HK3 : Hid (Kept W w4 P) := Lib.hid (HKa.out.then_ hk4 (fun k hk => .inl hk))
 have HR3 : Hid (Kd.R k50 50 w4 W0.heap.size (fun k => P k ∨ W.heap.size ≤ k) v4 (out ++ (meetsT s0 s1 l).map toI)) := Lib.hid (Kd.R_mono hr4 (fun k hk => hk.elim .inl (fun h => .inr (Nat.le_trans HSa.out h))))
 have HX3 := Lib.hid (blk_kept HX2a.out hk4 HSB.out)
 have HN3 := Lib.hid (blk_kept HN2.out hk4 HTB.out)
 have HB3 := Lib.hid hb4
 clear hr4 hb4 hk4 HIL hlm HX2a HN2 HB2a HKa HI1
 obtain ⟨A3, c3, e3⟩ := Kd.R_slice HR3.out
 subst e3
 have HFIN : Hid (out ++ (meetsT s0 s1 (.node p y l r)).map toI = (out ++ (meetsT s0 s1 l).map toI ++ (if meetF s0 s1 y = true then [toI ⟨k0, k1, k2⟩] else [])) ++ (meetsT s0 s1 r).map toI) := Lib.hid (by
  rw [HYE.out, HND.out]
  split <;> simp)
 generalize out ++ (meetsT s0 s1 l).map toI = o3 at *
 have n0 := blk_cell HN3.out 0
 have n1 := blk_cell HN3.out 1
 have x0 := blk_cell HX3.out 0
 have x1 := blk_cell HX3.out 1
 simp at n0 n1 x0 x1
 have HLL : Hid ((o3.length + 1) * 24 ≤ 140737488355328) := Lib.hid (by have := HOL.out; omega)
 go_wp2_with fail
 refine (meets_is k0 k1 s0 s1 w4).mono ?_
 rintro e w5 ⟨rfl, hb5⟩
 have HR4 := Lib.hid (Kd.R_below HR3.out hb5)
 have HX4 := Lib.hid (blk_below HX3.out hb5)
 have HN4 := Lib.hid (blk_below HN3.out hb5)
 have HB4 := Lib.hid (below_then HB3.out HB3.out.size hb5)
 have HK4 := Lib.hid (HK3.out.below hb5)
 have HSZ4 : Hid (W.heap.size ≤ w5.heap.size) := Lib.hid HK4.out.1
 clear hb5 HR3 HX3 HN3 HB3 HK3 n0 n1 x0 x1
 have HMY : Hid ((bothF k0 k1 s0 s1).2.2 = meetF s0 s1 y) := Lib.hid (by rw [HYE.out]; rfl)
 rw [HMY.out]
 cases hme : meetF s0 s1 y with
 | true =>
  rw [hme, if_pos rfl] at HFIN
  clear hme
  have n0 := blk_cell HN4.out 0
  have n1 := blk_cell HN4.out 1
  have n2 := blk_cell HN4.out 2
  simp at n0 n1 n2
  have HLO : Hid ((o3 ++ [toI ⟨k0, k1, k2⟩]).length ≤ 1000000 - (items r).length) := Lib.hid (by have := HOL.out; simp; omega)
  by_cases hfr : k0 < s1
  ·have hdf : decide (k0 < s1) = true := decide_eq_true hfr
   clear hfr
   go_wp2_with (first | ((with_reducible refine gate_builtin (b := .append) (xs := #[.tmp 46, .tmp 49]) rfl ?_); at_builtin; refine Kd.R_append k50 (w0 := W0) W0.heap.size rfl (.tmp 46) (.tmp 49) 29 50 (.agg #[.int .i64 0, .int .i64 0, .int .i64 0]) 24 rfl Try.underlying29 info50 rfl (by decide) (by omega) (.slice A3 o3.length c3) o3 (toI ⟨k0, k1, k2⟩) [.int .i64 k0, .int .i64 k1, .int .i64 k2] (fun k => P k ∨ W.heap.size ≤ k) (fun _ => False) rfl rfl ?aP (fun _ hk => hk.elim) ?aF ?aO ?aB ?aS ?aL ?_; (case aP => exact k50_mkM _ _ _ (toI ⟨k0, k1, k2⟩)); (case aF => exact (fun k hk => .inr (Nat.le_trans HSZ4.out hk))); (case aO => exact HR4.out); (case aB => exact HB4.out); (case aS => exact HB4.out.size); (case aL => exact HLL.out); intro v6 w6 ho6 hb6 hg6 hat6; obtain ⟨A6, c6, e6⟩ := Kd.R_slice ho6; rw [show (o3 ++ [toI ⟨k0, k1, k2⟩]).length = o3.length + 1 by simp] at e6; subst e6; have HR6 := Lib.hid ho6; have HB6 := Lib.hid hb6; have HX6 := Lib.hid (blk_grown HX4.out hg6 (Kd.R_ne HR4.out HX4.out (by decide))); have HN6 := Lib.hid (blk_grown HN4.out hg6 (Kd.R_ne HR4.out HN4.out (by decide))); have HK6 : Hid (Kept W w6 P) := Lib.hid (Kept.of_grown hg6 HK4.out (fun k e => HR4.out.1 k e)); have HSZ6 : Hid (W.heap.size ≤ w6.heap.size) := Lib.hid HK6.out.1; have n0 := blk_cell HN6.out 0; have n2 := blk_cell HN6.out 4; have x0 := blk_cell HX6.out 0; have x1 := blk_cell HX6.out 1; simp at n0 n2 x0 x1; clear ho6 hb6 hg6 hat6))
   have HIR := Lib.hid (HI2.out w6 (fun k => (P k ∨ W.heap.size ≤ k) ∧ k < w6.heap.size) A6 c6 (o3 ++ [toI ⟨k0, k1, k2⟩]) HB6.out (Kd.R_mono (Kd.R_bound (by rw [show (o3 ++ [toI ⟨k0, k1, k2⟩]).length = o3.length + 1 by simp]; exact HR6.out)) (fun k hk => ⟨hk.1, hk.2.2.1⟩)) HLO.out)
   rw [show (o3 ++ [toI ⟨k0, k1, k2⟩]).length = o3.length + 1 by simp] at HIR
   refine HIR.out.mono ?_
   rintro e w7 ⟨v7, rfl, hr7, hb7, hk7⟩
   have HR7 : Hid (Kd.R k50 50 w7 W0.heap.size (fun k => P k ∨ W.heap.size ≤ k) v7 ((o3 ++ [toI ⟨k0, k1, k2⟩]) ++ (meetsT s0 s1 r).map toI)) := Lib.hid (Kd.R_mono hr7 (fun k hk => hk.elim (fun h => h.1) (fun h => .inr (Nat.le_trans HSZ6.out h))))
   have HB7 := Lib.hid hb7
   have HK7 : Hid (Kept W w7 P) := Lib.hid (HK6.out.then_ hk7 (fun k hk => hk.1))
   clear hr7 hb7 hk7 HIR n0 n2 x0 x1
   go_wp2_with fail
   go_ret
   exact ⟨_, rfl, by rw [HFIN.out]; exact HR7.out, HB7.out, HK7.out⟩
  ·have hdf : decide (k0 < s1) = false := decide_eq_false hfr
   have HNO := Lib.hid (HRI.out (by omega))
   clear hfr
   go_wp2_with (first | ((with_reducible refine gate_builtin (b := .append) (xs := #[.tmp 46, .tmp 49]) rfl ?_); at_builtin; refine Kd.R_append k50 (w0 := W0) W0.heap.size rfl (.tmp 46) (.tmp 49) 29 50 (.agg #[.int .i64 0, .int .i64 0, .int .i64 0]) 24 rfl Try.underlying29 info50 rfl (by decide) (by omega) (.slice A3 o3.length c3) o3 (toI ⟨k0, k1, k2⟩) [.int .i64 k0, .int .i64 k1, .int .i64 k2] (fun k => P k ∨ W.heap.size ≤ k) (fun _ => False) rfl rfl ?aP (fun _ hk => hk.elim) ?aF ?aO ?aB ?aS ?aL ?_; (case aP => exact k50_mkM _ _ _ (toI ⟨k0, k1, k2⟩)); (case aF => exact (fun k hk => .inr (Nat.le_trans HSZ4.out hk))); (case aO => exact HR4.out); (case aB => exact HB4.out); (case aS => exact HB4.out.size); (case aL => exact HLL.out); intro v6 w6 ho6 hb6 hg6 hat6; obtain ⟨A6, c6, e6⟩ := Kd.R_slice ho6; rw [show (o3 ++ [toI ⟨k0, k1, k2⟩]).length = o3.length + 1 by simp] at e6; subst e6; have HR6 := Lib.hid ho6; have HB6 := Lib.hid hb6; have HX6 := Lib.hid (blk_grown HX4.out hg6 (Kd.R_ne HR4.out HX4.out (by decide))); have HN6 := Lib.hid (blk_grown HN4.out hg6 (Kd.R_ne HR4.out HN4.out (by decide))); have HK6 : Hid (Kept W w6 P) := Lib.hid (Kept.of_grown hg6 HK4.out (fun k e => HR4.out.1 k e)); have HSZ6 : Hid (W.heap.size ≤ w6.heap.size) := Lib.hid HK6.out.1; have n0 := blk_cell HN6.out 0; have n2 := blk_cell HN6.out 4; have x0 := blk_cell HX6.out 0; have x1 := blk_cell HX6.out 1; simp at n0 n2 x0 x1; clear ho6 hb6 hg6 hat6))
   go_ret
   exact ⟨_, rfl, by rw [HFIN.out, HNO.out, List.map_nil, List.append_nil]; exact HR6.out, HB6.out, HK6.out⟩
 | false =>
  rw [hme, if_neg (by decide), List.append_nil] at HFIN
  clear hme
  have HLO : Hid (o3.length ≤ 1000000 - (items r).length) := Lib.hid (by have := HOL.out; omega)
  have n0 := blk_cell HN4.out 0
  have n2 := blk_cell HN4.out 4
  have x0 := blk_cell HX4.out 0
  have x1 := blk_cell HX4.out 1
  simp at n0 n2 x0 x1
  by_cases hfr : k0 < s1
  ·have hdf : decide (k0 < s1) = true := decide_eq_true hfr
   have HIR := Lib.hid (HI2.out w5 (fun k => (P k ∨ W.heap.size ≤ k) ∧ k < w5.heap.size) A3 c3 o3 HB4.out (Kd.R_mono (Kd.R_bound HR4.out) (fun k hk => ⟨hk.1, hk.2.2.1⟩)) HLO.out)
   clear hfr
   go_wp2_with fail
   refine HIR.out.mono ?_
   rintro e w7 ⟨v7, rfl, hr7, hb7, hk7⟩
   have HR7 : Hid (Kd.R k50 50 w7 W0.heap.size (fun k => P k ∨ W.heap.size ≤ k) v7 (o3 ++ (meetsT s0 s1 r).map toI)) := Lib.hid (Kd.R_mono hr7 (fun k hk => hk.elim (fun h => h.1) (fun h => .inr (Nat.le_trans HSZ4.out h))))
   have HB7 := Lib.hid hb7
   have HK7 : Hid (Kept W w7 P) := Lib.hid (HK4.out.then_ hk7 (fun k hk => hk.1))
   clear hr7 hb7 hk7 HIR n0 n2 x0 x1
   go_wp2_with fail
   go_ret
   exact ⟨_, rfl, by rw [HFIN.out]; exact HR7.out, HB7.out, HK7.out⟩
  ·have hdf : decide (k0 < s1) = false := decide_eq_false hfr
   have HNO := Lib.hid (HRI.out (by omega))
   clear hfr
   go_wp2_with fail
   go_ret
   exact ⟨_, rfl, by rw [HFIN.out, HNO.out, List.map_nil, List.append_nil]; exact HR4.out, HB4.out, HK4.out⟩
theorem meets_all : ∀ (t : T) (i : Int) (W0 W : World) (q : Nat) (A : Option Addr) (nn cn : Nat) (a : Cells) (s0 s1 : Int) (Av : Option Addr) (cv : Nat) (P : Nat → Prop) (out : List It) (hq : Hd W0 q (.slice A nn cn)) (hn : Rd W0 A nn a) (hB : Below W0.heap.size W0 W) (ho : Kd.R k50 50 W W0.heap.size P (.slice Av out.length cv) out) (hh : Hang a t i) (hw : Within nn t) (hrow : Row (items t)) (hP : ∀ k, P k → k < W.heap.size) (hlen : out.length + (items t).length ≤ 1000000), Meetss W0 W q i s0 s1 (.slice Av out.length cv) P out t
 | .nil, i, W0, W, q, A, nn, cn, a, s0, s1, Av, cv, P, out, hq, hn, hB, ho, hh, hw, hrow, hP, hlen => by
  have e : i = -1 := hh
  subst e
  exact meets_nil W0 W q s0 s1 Av cv P out hB ho
 | .node p y l r, i, W0, W, q, A, nn, cn, a, s0, s1, Av, cv, P, out, hq, hn, hB, ho, hh, hw, hrow, hP, hlen => by
  have e : i = (p : Int) := hh.1
  subst e
  by_cases hm : most (.node p y l r) ≤ s0
  ·exact meets_low W0 W q A nn cn a s0 s1 Av cv P out p y l r hq hn hB ho hh hw hrow hm
  ·have hrow' : Row (items l ++ y :: items r) := hrow
   obtain ⟨r1, r2, _, _⟩ := row_parts hrow'
   exact meets_in W0 W q A nn cn a s0 s1 Av cv P out p y l r hq hn hB ho hh hw hrow hm hP hlen (fun W' P' Av' cv' out' g1 g2 g3 g4 => meets_all l _ W0 W' q A nn cn a s0 s1 Av' cv' P' out' hq hn g1 g2 hh.2.2.1 hw.l r1 g3 g4) (fun W' P' Av' cv' out' g1 g2 g3 g4 => meets_all r _ W0 W' q A nn cn a s0 s1 Av' cv' P' out' hq hn g1 g2 hh.2.2.2.1 hw.r r2 g3 g4)
end Go.Proofs.Ytgkjpffbgnljeaa.Man
