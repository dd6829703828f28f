/- The law TellReads: what its call does (printed by gen_tellXW.py). -/
import Derived.Test.YteikgpdjfhdneaaTellT
import Derived.Test.YteikgpdjfhdneaaTellFY
import Derived.Test.YteikgpdjfhdneaaTellSR
set_option linter.unusedVariables false
set_option linter.unusedSimpArgs false
namespace Go.Proofs.Yteikgpdjfhdneaa.Man
open Go.RowKit Go.Proofs.Yteikgpdjfhdneaa.QT Go.Proofs.Yteikgpdjfhdneaa.QL Go.Proofs.Yteikgpdjfhdneaa.QH Go.Proofs.YteikgpdjfhdneaaW.PrintWords Go.Proofs.YteikgpdjfhdneaaW.PrintLast Go.Proofs.YteikgpdjfhdneaaW.PrintMore
theorem Sp.below {B : Nat} {P : Nat → Prop} {a W W' : World} (h : Below B a W) (hB : ∀ g, P g → B ≤ g) (s : Sp P W W') : Below B a W' :=
  ⟨s.os.trans h.os, s.tape.trans h.tape, s.output.trans h.output, by rw [s.size]; exact h.size, fun k hk => (s.out k (fun hp => by have := hB k hp; omega)).trans (h.block k hk)⟩
set_option maxHeartbeats 8000000 in
set_option maxRecDepth 100000 in
theorem reads_walk (k : Nat) (s : ByteArray) (fr to_ at_ : Int) (vs : List Int) (kind code id rate value : Int) (ps : List S76) (er : Int) (w : World)
    (h1 : tell_Read.f k s = some (fr, to_, at_, vs, kind, code, id, rate, value, ps, er)) (h2 : tollbarref22_ReadTell.f k s = some (fr, to_, at_, vs, kind, code, id, rate, value, ps, er)) (hs : tollbarlaw0_SameReply.f k fr to_ at_ vs kind code id rate value ps fr to_ at_ vs kind code id rate value ps = some true) (hv : vs.length ≤ 1099511627776) (hp : ps.length ≤ 1099511627776) (hq : ∀ p ∈ ps, p.f1.length ≤ 1099511627776 ∧ ∀ q ∈ p.f1, q.f1.length ≤ 1099511627776) :
    Calls Try.prog 9 #[.string s] w fun e w' => e = .returned (.bool true) ∧ Below w.heap.size w w' := by
  go_enter Try.func9, Try.ntmps9
  go_wp2_with fail
  refine (tell_Read.calls k s fr to_ at_ vs kind code id rate value ps er w h1).mono ?_
  rintro e w1 ⟨v3, v9, rfl, g3, g9, hb⟩
  obtain ⟨A1, c1, rfl, hc1, hC3⟩ := Kd.R_reads g3
  obtain ⟨B1, d1, rfl, hd1, hC9⟩ := Kd.R_reads g9
  have hPP : ∀ g, w.heap.size ≤ g → g < w1.heap.size → (fun g => w.heap.size ≤ g ∧ g < w1.heap.size) g := fun g h1 h2 => ⟨h1, h2⟩
  have HI3 : Hid (IntRow w1 (fun g => w.heap.size ≤ g ∧ g < w1.heap.size) A1 vs.length) := Lib.hid (by
    obtain ⟨A, c, e, hI⟩ := introw_of hPP g3
    injection e with e1 e2 e3
    rw [e1]
    exact hI)
  have HI9 : Hid (PieceRow w1 (fun g => w.heap.size ≤ g ∧ g < w1.heap.size) B1 ps.length) := Lib.hid (by
    obtain ⟨A, c, e, hI⟩ := piecerow_of hPP hq g9
    injection e with e1 e2 e3
    rw [e1]
    exact hI)
  have HB1 := Lib.hid (hb.alloc hb.size (.cells #[.int .i64 fr, .int .i64 to_, .int .i64 at_, .slice A1 vs.length c1, .int .i64 kind, .int .i64 code, .int .i64 id, .int .i64 rate, .int .i64 value, .slice B1 ps.length d1] 48 (0, 0)))
  have HX1 := Lib.hid (blk_new w1 (.cells #[.int .i64 fr, .int .i64 to_, .int .i64 at_, .slice A1 vs.length c1, .int .i64 kind, .int .i64 code, .int .i64 id, .int .i64 rate, .int .i64 value, .slice B1 ps.length d1] 48 (0, 0)))
  have HC3 := Lib.hid (Kd.C_alloc hC3 (.cells #[.int .i64 fr, .int .i64 to_, .int .i64 at_, .slice A1 vs.length c1, .int .i64 kind, .int .i64 code, .int .i64 id, .int .i64 rate, .int .i64 value, .slice B1 ps.length d1] 48 (0, 0)))
  have HC9 := Lib.hid (Kd.C_alloc hC9 (.cells #[.int .i64 fr, .int .i64 to_, .int .i64 at_, .slice A1 vs.length c1, .int .i64 kind, .int .i64 code, .int .i64 id, .int .i64 rate, .int .i64 value, .slice B1 ps.length d1] 48 (0, 0)))
  have HA := Lib.hid ((Below.refl w1.heap.size w1).alloc (Nat.le_refl _) (.cells #[.int .i64 fr, .int .i64 to_, .int .i64 at_, .slice A1 vs.length c1, .int .i64 kind, .int .i64 code, .int .i64 id, .int .i64 rate, .int .i64 value, .slice B1 ps.length d1] 48 (0, 0)))
  have hw1 : w.heap.size ≤ w1.heap.size := hb.size
  obtain ⟨n1, hn1⟩ : ∃ n1, w1.heap.size = n1 := ⟨_, rfl⟩
  have HS1 : Hid (w1.heap.size < (w1.alloc (.cells #[.int .i64 fr, .int .i64 to_, .int .i64 at_, .slice A1 vs.length c1, .int .i64 kind, .int .i64 code, .int .i64 id, .int .i64 rate, .int .i64 value, .slice B1 ps.length d1] 48 (0, 0))).heap.size) := Lib.hid (by simp)
  have HJ3 := Lib.hid (HI3.out.below HA.out)
  have HJ9 := Lib.hid (HI9.out.below HA.out)
  clear g3 g9 hb hC3 hC9 hPP HI3 HI9 HA
  go_wp2_with fail
  generalize (w1.alloc (.cells #[.int .i64 fr, .int .i64 to_, .int .i64 at_, .slice A1 vs.length c1, .int .i64 kind, .int .i64 code, .int .i64 id, .int .i64 rate, .int .i64 value, .slice B1 ps.length d1] 48 (0, 0))) = W1 at HB1 HX1 HC3 HC9 HJ3 HJ9 HS1 ⊢
  rw [hn1] at HX1 HJ3 HJ9 HS1 hw1
  try rw [hn1]
  have hs1 := HS1.out
  clear hn1
  refine (tollbarref22_ReadTell.calls k s fr to_ at_ vs kind code id rate value ps er W1 h2).mono ?_
  rintro e w2 ⟨v3, v9, rfl, g3, g9, hb⟩
  obtain ⟨A2, c2, rfl, hc2, hC3⟩ := Kd.R_reads g3
  obtain ⟨B2, d2, rfl, hd2, hC9⟩ := Kd.R_reads g9
  have HG3 := Lib.hid (Kd.R_alloc g3 (.cells #[.int .i64 fr, .int .i64 to_, .int .i64 at_, .slice A2 vs.length c2, .int .i64 kind, .int .i64 code, .int .i64 id, .int .i64 rate, .int .i64 value, .slice B2 ps.length d2] 48 (0, 0)))
  have HG9 := Lib.hid (Kd.R_alloc g9 (.cells #[.int .i64 fr, .int .i64 to_, .int .i64 at_, .slice A2 vs.length c2, .int .i64 kind, .int .i64 code, .int .i64 id, .int .i64 rate, .int .i64 value, .slice B2 ps.length d2] 48 (0, 0)))
  have HD3 := Lib.hid (Kd.C_alloc hC3 (.cells #[.int .i64 fr, .int .i64 to_, .int .i64 at_, .slice A2 vs.length c2, .int .i64 kind, .int .i64 code, .int .i64 id, .int .i64 rate, .int .i64 value, .slice B2 ps.length d2] 48 (0, 0)))
  have HD9 := Lib.hid (Kd.C_alloc hC9 (.cells #[.int .i64 fr, .int .i64 to_, .int .i64 at_, .slice A2 vs.length c2, .int .i64 kind, .int .i64 code, .int .i64 id, .int .i64 rate, .int .i64 value, .slice B2 ps.length d2] 48 (0, 0)))
  have hx := blk_below HX1.out hb
  have HB2 := Lib.hid ((below_then HB1.out HB1.out.size hb).alloc (below_then HB1.out HB1.out.size hb).size (.cells #[.int .i64 fr, .int .i64 to_, .int .i64 at_, .slice A2 vs.length c2, .int .i64 kind, .int .i64 code, .int .i64 id, .int .i64 rate, .int .i64 value, .slice B2 ps.length d2] 48 (0, 0)))
  have HX2 := Lib.hid (blk_alloc hx (.cells #[.int .i64 fr, .int .i64 to_, .int .i64 at_, .slice A2 vs.length c2, .int .i64 kind, .int .i64 code, .int .i64 id, .int .i64 rate, .int .i64 value, .slice B2 ps.length d2] 48 (0, 0)))
  have HY2 := Lib.hid (blk_new w2 (.cells #[.int .i64 fr, .int .i64 to_, .int .i64 at_, .slice A2 vs.length c2, .int .i64 kind, .int .i64 code, .int .i64 id, .int .i64 rate, .int .i64 value, .slice B2 ps.length d2] 48 (0, 0)))
  have HC32 := Lib.hid (Kd.C_alloc (Kd.C_below HC3.out hb) (.cells #[.int .i64 fr, .int .i64 to_, .int .i64 at_, .slice A2 vs.length c2, .int .i64 kind, .int .i64 code, .int .i64 id, .int .i64 rate, .int .i64 value, .slice B2 ps.length d2] 48 (0, 0)))
  have HC92 := Lib.hid (Kd.C_alloc (Kd.C_below HC9.out hb) (.cells #[.int .i64 fr, .int .i64 to_, .int .i64 at_, .slice A2 vs.length c2, .int .i64 kind, .int .i64 code, .int .i64 id, .int .i64 rate, .int .i64 value, .slice B2 ps.length d2] 48 (0, 0)))
  have HJ32 := Lib.hid ((HJ3.out.below hb).below ((Below.refl w2.heap.size w2).alloc (Nat.le_refl _) (.cells #[.int .i64 fr, .int .i64 to_, .int .i64 at_, .slice A2 vs.length c2, .int .i64 kind, .int .i64 code, .int .i64 id, .int .i64 rate, .int .i64 value, .slice B2 ps.length d2] 48 (0, 0))))
  have HJ92 := Lib.hid ((HJ9.out.below hb).below ((Below.refl w2.heap.size w2).alloc (Nat.le_refl _) (.cells #[.int .i64 fr, .int .i64 to_, .int .i64 at_, .slice A2 vs.length c2, .int .i64 kind, .int .i64 code, .int .i64 id, .int .i64 rate, .int .i64 value, .slice B2 ps.length d2] 48 (0, 0))))
  have hs2 : W1.heap.size ≤ w2.heap.size := hb.size
  have hx1l : n1 < w2.heap.size := by omega
  have HS3 : Hid (w2.heap.size < (w2.alloc (.cells #[.int .i64 fr, .int .i64 to_, .int .i64 at_, .slice A2 vs.length c2, .int .i64 kind, .int .i64 code, .int .i64 id, .int .i64 rate, .int .i64 value, .slice B2 ps.length d2] 48 (0, 0))).heap.size) := Lib.hid (by simp)
  have hh := hx
  have p0 := blk_cell hh 0
  simp at p0
  have p1 := blk_cell hh 1
  simp at p1
  have p2 := blk_cell hh 2
  simp at p2
  have p3 := blk_cell hh 3
  simp at p3
  have p4 := blk_cell hh 4
  simp at p4
  have p5 := blk_cell hh 5
  simp at p5
  have p6 := blk_cell hh 6
  simp at p6
  have p7 := blk_cell hh 7
  simp at p7
  have p8 := blk_cell hh 8
  simp at p8
  have p9 := blk_cell hh 9
  simp at p9
  clear hh
  clear g3 g9 hb hC3 hC9 hx HB1 HX1 HC3 HC9 HJ3 HJ9
  go_wp2_with fail
  generalize (w2.alloc (.cells #[.int .i64 fr, .int .i64 to_, .int .i64 at_, .slice A2 vs.length c2, .int .i64 kind, .int .i64 code, .int .i64 id, .int .i64 rate, .int .i64 value, .slice B2 ps.length d2] 48 (0, 0))) = W2 at HG3 HG9 HD3 HD9 HB2 HX2 HY2 HC32 HC92 HJ32 HJ92 HS3 ⊢
  obtain ⟨n2, hn2⟩ : ∃ n2, w2.heap.size = n2 := ⟨_, rfl⟩
  rw [hn2] at HY2 hs2 hx1l HS3 ⊢
  have hs3 := HS3.out
  clear hn2
  clear p0 p1 p2 p3 p4 p5 p6 p7 p8 p9
  refine (tollbarlaw0_SameReply.calls k fr to_ at_ A1 c1 vs kind code id rate value B1 d1 ps fr to_ at_ A2 c2 vs kind code id rate value B2 d2 ps true W2 HC32.out hc1 HC92.out hd1 HD3.out hc2 HD9.out hd2 hs).mono ?_
  rintro e w3 ⟨rfl, hb⟩
  have HB3 := Lib.hid (below_then HB2.out HB2.out.size hb)
  have hx := blk_below HX2.out hb
  have hy := blk_below HY2.out hb
  have HY3 := Lib.hid hy
  have HJ33 := Lib.hid (HJ32.out.below hb)
  have HJ93 := Lib.hid (HJ92.out.below hb)
  have HG33 := Lib.hid (Kd.R_below HG3.out hb)
  have HG93 := Lib.hid (Kd.R_below HG9.out hb)
  have hs4 : W2.heap.size ≤ w3.heap.size := hb.size
  have hh := hx
  have p0 := blk_cell hh 0
  simp at p0
  have p1 := blk_cell hh 1
  simp at p1
  have p2 := blk_cell hh 2
  simp at p2
  have p3 := blk_cell hh 3
  simp at p3
  have p4 := blk_cell hh 4
  simp at p4
  have p5 := blk_cell hh 5
  simp at p5
  have p6 := blk_cell hh 6
  simp at p6
  have p7 := blk_cell hh 7
  simp at p7
  have p8 := blk_cell hh 8
  simp at p8
  have p9 := blk_cell hh 9
  simp at p9
  clear hh
  clear hx hy hb HB2 HX2 HY2 HC32 HC92 HD3 HD9 HJ32 HJ92 HG3 HG9
  have hne : (er != er) = false := by simp
  have heq : (er == er) = true := by simp
  go_wp2_with fail
  refine (num_is _ _).mono ?_
  rintro e w4 ⟨rfl, rfl⟩
  go_wp2_with fail
  refine (spoilReply_is (fun g => w.heap.size ≤ g ∧ g < n1) fr to_ at_ kind code id rate value A1 vs.length c1 B1 ps.length d1 w3 (fun g hg => by have := hg.2; omega) hv hp HJ33.out HJ93.out).mono ?_
  rintro e w5 ⟨rfl, W6, hb6, hs6⟩
  have HB5 := Lib.hid (Sp.below (below_then HB3.out HB3.out.size hb6) (fun g hg => hg.1) hs6)
  have hy := (hs6.out n2 (fun hg => by have := hg.2; omega)).trans (blk_below HY3.out hb6)
  have HY5 := Lib.hid hy
  have g35 := Kd.R_step (Kd.R_bound (Kd.R_below HG33.out hb6)) (fun b hb hl => hs6.out b (fun hg => by have := hg.2; have := hb.2.1; omega))
  have g95 := Kd.R_step (Kd.R_bound (Kd.R_below HG93.out hb6)) (fun b hb hl => hs6.out b (fun hg => by have := hg.2; have := hb.2.1; omega))
  obtain ⟨A5, c5, e5, _, hC3⟩ := Kd.R_reads g35
  obtain ⟨rfl, rfl⟩ : A2 = A5 ∧ c2 = c5 := by injection e5 with e51 e52 e53; exact ⟨e51, e53⟩
  obtain ⟨B5, d5, e5, _, hC9⟩ := Kd.R_reads g95
  obtain ⟨rfl, rfl⟩ : B2 = B5 ∧ d2 = d5 := by injection e5 with e51 e52 e53; exact ⟨e51, e53⟩
  have HC5 := Lib.hid hC3
  have HD5 := Lib.hid hC9
  have hs5 : n2 < w5.heap.size := blk_lt hy
  clear p0 p1 p2 p3 p4 p5 p6 p7 p8 p9
  clear hy hb6 hs6 g35 g95 e5 hC3 hC9 HB3 HY3 HJ33 HJ93 HG33 HG93
  go_wp2_with fail
  refine (tell_Read.calls k s fr to_ at_ vs kind code id rate value ps er w5 h1).mono ?_
  rintro e w7 ⟨v3, v9, rfl, g3, g9, hb⟩
  obtain ⟨A7, c7, rfl, hc7, hC3⟩ := Kd.R_reads g3
  obtain ⟨B7, d7, rfl, hd7, hC9⟩ := Kd.R_reads g9
  have HB7 := Lib.hid ((below_then HB5.out HB5.out.size hb).alloc (below_then HB5.out HB5.out.size hb).size (.cells #[.int .i64 fr, .int .i64 to_, .int .i64 at_, .slice A7 vs.length c7, .int .i64 kind, .int .i64 code, .int .i64 id, .int .i64 rate, .int .i64 value, .slice B7 ps.length d7] 48 (0, 0)))
  have HY7 := Lib.hid (blk_alloc (blk_below HY5.out hb) (.cells #[.int .i64 fr, .int .i64 to_, .int .i64 at_, .slice A7 vs.length c7, .int .i64 kind, .int .i64 code, .int .i64 id, .int .i64 rate, .int .i64 value, .slice B7 ps.length d7] 48 (0, 0)))
  have HX7 := Lib.hid (blk_new w7 (.cells #[.int .i64 fr, .int .i64 to_, .int .i64 at_, .slice A7 vs.length c7, .int .i64 kind, .int .i64 code, .int .i64 id, .int .i64 rate, .int .i64 value, .slice B7 ps.length d7] 48 (0, 0)))
  have HC7 := Lib.hid (Kd.C_alloc hC3 (.cells #[.int .i64 fr, .int .i64 to_, .int .i64 at_, .slice A7 vs.length c7, .int .i64 kind, .int .i64 code, .int .i64 id, .int .i64 rate, .int .i64 value, .slice B7 ps.length d7] 48 (0, 0)))
  have HD7 := Lib.hid (Kd.C_alloc hC9 (.cells #[.int .i64 fr, .int .i64 to_, .int .i64 at_, .slice A7 vs.length c7, .int .i64 kind, .int .i64 code, .int .i64 id, .int .i64 rate, .int .i64 value, .slice B7 ps.length d7] 48 (0, 0)))
  have HE7 := Lib.hid (Kd.C_alloc (Kd.C_below HC5.out hb) (.cells #[.int .i64 fr, .int .i64 to_, .int .i64 at_, .slice A7 vs.length c7, .int .i64 kind, .int .i64 code, .int .i64 id, .int .i64 rate, .int .i64 value, .slice B7 ps.length d7] 48 (0, 0)))
  have HF7 := Lib.hid (Kd.C_alloc (Kd.C_below HD5.out hb) (.cells #[.int .i64 fr, .int .i64 to_, .int .i64 at_, .slice A7 vs.length c7, .int .i64 kind, .int .i64 code, .int .i64 id, .int .i64 rate, .int .i64 value, .slice B7 ps.length d7] 48 (0, 0)))
  clear g3 g9 hb hC3 hC9 HB5 HY5 HC5 HD5
  go_wp2_with fail
  generalize (w7.alloc (.cells #[.int .i64 fr, .int .i64 to_, .int .i64 at_, .slice A7 vs.length c7, .int .i64 kind, .int .i64 code, .int .i64 id, .int .i64 rate, .int .i64 value, .slice B7 ps.length d7] 48 (0, 0))) = W7 at HB7 HY7 HX7 HC7 HD7 HE7 HF7 ⊢
  refine (awake_is W7).mono ?_
  rintro e w8 ⟨rfl, hb⟩
  have HB8 := Lib.hid (below_then HB7.out HB7.out.size hb)
  have hx := blk_below HX7.out hb
  have hy := blk_below HY7.out hb
  have HC8 := Lib.hid (Kd.C_below HC7.out hb)
  have HD8 := Lib.hid (Kd.C_below HD7.out hb)
  have HE8 := Lib.hid (Kd.C_below HE7.out hb)
  have HF8 := Lib.hid (Kd.C_below HF7.out hb)
  have hh := hx
  have p0 := blk_cell hh 0
  simp at p0
  have p1 := blk_cell hh 1
  simp at p1
  have p2 := blk_cell hh 2
  simp at p2
  have p3 := blk_cell hh 3
  simp at p3
  have p4 := blk_cell hh 4
  simp at p4
  have p5 := blk_cell hh 5
  simp at p5
  have p6 := blk_cell hh 6
  simp at p6
  have p7 := blk_cell hh 7
  simp at p7
  have p8 := blk_cell hh 8
  simp at p8
  have p9 := blk_cell hh 9
  simp at p9
  clear hh
  have hh := hy
  have q0 := blk_cell hh 0
  simp at q0
  have q1 := blk_cell hh 1
  simp at q1
  have q2 := blk_cell hh 2
  simp at q2
  have q3 := blk_cell hh 3
  simp at q3
  have q4 := blk_cell hh 4
  simp at q4
  have q5 := blk_cell hh 5
  simp at q5
  have q6 := blk_cell hh 6
  simp at q6
  have q7 := blk_cell hh 7
  simp at q7
  have q8 := blk_cell hh 8
  simp at q8
  have q9 := blk_cell hh 9
  simp at q9
  clear hh
  clear hx hy hb HB7 HY7 HX7 HC7 HD7 HE7 HF7
  go_wp2_with fail
  refine (tollbarlaw0_SameReply.calls k fr to_ at_ A7 c7 vs kind code id rate value B7 d7 ps fr to_ at_ A2 c2 vs kind code id rate value B2 d2 ps true w8 HC8.out hc7 HD8.out hd7 HE8.out hc2 HF8.out hd2 hs).mono ?_
  rintro e w9 ⟨rfl, hb⟩
  have HB9 := Lib.hid (below_then HB8.out HB8.out.size hb)
  clear p0 p1 p2 p3 p4 p5 p6 p7 p8 p9
  clear q0 q1 q2 q3 q4 q5 q6 q7 q8 q9
  clear hb HB8 HC8 HD8 HE8 HF8
  go_wp2_with fail
  refine (num_is _ _).mono ?_
  rintro e w10 ⟨rfl, rfl⟩
  go_wp2_with fail
  go_ret
  exact ⟨by simp, HB9.out⟩
open Classical in
noncomputable def tollbarlaw23_TellReads.f (k : Nat) (s : ByteArray) : Option Bool :=
  if ∃ (r : Rp) (er : Int), tell_Read.f k s = some (tupR (r, er)) ∧ tollbarref22_ReadTell.f k s = some (tupR (r, er)) ∧ tollbarlaw0_SameReply.f k r.fr r.to_ r.at_ r.vs r.kind r.code r.id r.rate r.value r.ps r.fr r.to_ r.at_ r.vs r.kind r.code r.id r.rate r.value r.ps = some true ∧ r.vs.length ≤ 1099511627776 ∧ r.ps.length ≤ 1099511627776 ∧ ∀ p ∈ r.ps, p.f1.length ≤ 1099511627776 ∧ ∀ q ∈ p.f1, q.f1.length ≤ 1099511627776 then some true else none
theorem tollbarlaw23_TellReads.calls (k : Nat) (s : ByteArray) (r : Bool) (w : World) (h : tollbarlaw23_TellReads.f k s = some r) : Calls Try.prog 9 #[.string s] w fun e w' => e = .returned (.bool r) ∧ Below w.heap.size w w' := by
  unfold tollbarlaw23_TellReads.f at h
  split at h
  case isFalse => cases h
  case isTrue hh =>
    obtain rfl := Option.some.inj h
    obtain ⟨q, er, h1, h2, h3, h4, h5, h6⟩ := hh
    exact reads_walk k s q.fr q.to_ q.at_ q.vs q.kind q.code q.id q.rate q.value q.ps er w h1 h2 h3 h4 h5 h6
end Go.Proofs.Yteikgpdjfhdneaa.Man
