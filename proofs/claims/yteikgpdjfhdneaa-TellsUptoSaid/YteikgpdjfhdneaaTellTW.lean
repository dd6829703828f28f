/- The law Tells: what its call does (printed by gen_tellTW.py). -/
import Derived.Test.YteikgpdjfhdneaaTellT
import Derived.Test.YteikgpdjfhdneaaTellRM
import Derived.Test.YteikgpdjfhdneaaQSm
import Derived.Test.YteikgpdjfhdneaaQIm
set_option linter.unusedVariables false
set_option linter.unusedSimpArgs false
namespace Go.Proofs.Yteikgpdjfhdneaa.Man
open Go.RowKit Go.Proofs.Yteikgpdjfhdneaa.QT Go.Proofs.Yteikgpdjfhdneaa.QL Go.Proofs.Yteikgpdjfhdneaa.QG Go.Proofs.Yteikgpdjfhdneaa.QH Go.Proofs.Yteikgpdjfhdneaa.QS Go.Proofs.Yteikgpdjfhdneaa.QI Go.Proofs.YteikgpdjfhdneaaW.PrintWords Go.Proofs.YteikgpdjfhdneaaW.PrintLast Go.Proofs.YteikgpdjfhdneaaW.PrintMore
set_option maxHeartbeats 8000000 in
set_option maxRecDepth 100000 in
theorem tells_walk (k : Nat) (fr to_ at_ : Int) (A3 : Option Addr) (c3 : Nat) (vs : List Int) (kind code id rate value : Int) (A9 : Option Addr) (c9 : Nat) (ps : List S76) (b : Bool) (s : ByteArray) (er : Int) (w : World) (hr3 : Kd.C (Kd.int .i64) w A3 vs.length vs) (hc3 : vs.length ≤ c3) (hr9 : Kd.C k76 w A9 ps.length ps) (hc9 : ps.length ≤ c9)
    (hcp : tollbarlaw0_CopyReply.f k fr to_ at_ vs kind code id rate value ps = some (fr, to_, at_, vs, kind, code, id, rate, value, ps)) (hw : tell_Write.f k fr to_ at_ vs kind code id rate value ps = some (s, er)) (hwr : tollbarref22_WriteTell.f k fr to_ at_ vs kind code id rate value ps = some (s, er)) (hm : tell_May.f fr to_ at_ vs kind code id rate value ps = some b) (hrm : tollbarref22_ReplyMay.f k fr to_ at_ vs kind code id rate value ps = some b) (hs : tollbarlaw0_SameReply.f k fr to_ at_ vs kind code id rate value ps fr to_ at_ vs kind code id rate value ps = some true) :
    Calls Try.prog 8 #[.agg #[.int .i64 fr, .int .i64 to_, .int .i64 at_, .slice A3 vs.length c3, .int .i64 kind, .int .i64 code, .int .i64 id, .int .i64 rate, .int .i64 value, .slice A9 ps.length c9]] w fun e w' => e = .returned (.bool true) ∧ Below w.heap.size w w' := by
  have HB0 := Lib.hid ((Below.refl w.heap.size w).alloc (Nat.le_refl _) (.cells #[.int .i64 fr, .int .i64 to_, .int .i64 at_, .slice A3 vs.length c3, .int .i64 kind, .int .i64 code, .int .i64 id, .int .i64 rate, .int .i64 value, .slice A9 ps.length c9] 48 (0, 0)))
  have HC3 := Lib.hid (Kd.C_alloc hr3 (.cells #[.int .i64 fr, .int .i64 to_, .int .i64 at_, .slice A3 vs.length c3, .int .i64 kind, .int .i64 code, .int .i64 id, .int .i64 rate, .int .i64 value, .slice A9 ps.length c9] 48 (0, 0)))
  have HC9 := Lib.hid (Kd.C_alloc hr9 (.cells #[.int .i64 fr, .int .i64 to_, .int .i64 at_, .slice A3 vs.length c3, .int .i64 kind, .int .i64 code, .int .i64 id, .int .i64 rate, .int .i64 value, .slice A9 ps.length c9] 48 (0, 0)))
  have HR0 := Lib.hid (blk_new w (.cells #[.int .i64 fr, .int .i64 to_, .int .i64 at_, .slice A3 vs.length c3, .int .i64 kind, .int .i64 code, .int .i64 id, .int .i64 rate, .int .i64 value, .slice A9 ps.length c9] 48 (0, 0)))
  clear hr3 hr9
  go_enter Try.func8, Try.ntmps8
  go_wp2_with fail
  generalize (w.alloc (.cells #[.int .i64 fr, .int .i64 to_, .int .i64 at_, .slice A3 vs.length c3, .int .i64 kind, .int .i64 code, .int .i64 id, .int .i64 rate, .int .i64 value, .slice A9 ps.length c9] 48 (0, 0))) = W0 at HB0 HC3 HC9 HR0 ⊢
  refine (tollbarlaw0_CopyReply.calls k fr to_ at_ A3 c3 vs kind code id rate value A9 c9 ps fr to_ at_ vs kind code id rate value ps W0 HC3.out hc3 HC9.out hc9 hcp).mono ?_
  rintro e w1 ⟨v3, v9, rfl, g3, g9, hb1⟩
  obtain ⟨B3, d3, rfl, hd3, hx3⟩ := Kd.R_reads g3
  obtain ⟨B9, d9, rfl, hd9, hx9⟩ := Kd.R_reads g9
  have HB1 := Lib.hid ((below_then HB0.out HB0.out.size hb1).alloc (below_then HB0.out HB0.out.size hb1).size (.cells #[.int .i64 fr, .int .i64 to_, .int .i64 at_, .slice B3 vs.length d3, .int .i64 kind, .int .i64 code, .int .i64 id, .int .i64 rate, .int .i64 value, .slice B9 ps.length d9] 48 (0, 0)))
  have HR1 := Lib.hid (blk_alloc (blk_below HR0.out hb1) (.cells #[.int .i64 fr, .int .i64 to_, .int .i64 at_, .slice B3 vs.length d3, .int .i64 kind, .int .i64 code, .int .i64 id, .int .i64 rate, .int .i64 value, .slice B9 ps.length d9] 48 (0, 0)))
  have HX1 := Lib.hid (blk_new w1 (.cells #[.int .i64 fr, .int .i64 to_, .int .i64 at_, .slice B3 vs.length d3, .int .i64 kind, .int .i64 code, .int .i64 id, .int .i64 rate, .int .i64 value, .slice B9 ps.length d9] 48 (0, 0)))
  have H31 := Lib.hid (Kd.C_alloc (Kd.C_below HC3.out hb1) (.cells #[.int .i64 fr, .int .i64 to_, .int .i64 at_, .slice B3 vs.length d3, .int .i64 kind, .int .i64 code, .int .i64 id, .int .i64 rate, .int .i64 value, .slice B9 ps.length d9] 48 (0, 0)))
  have H91 := Lib.hid (Kd.C_alloc (Kd.C_below HC9.out hb1) (.cells #[.int .i64 fr, .int .i64 to_, .int .i64 at_, .slice B3 vs.length d3, .int .i64 kind, .int .i64 code, .int .i64 id, .int .i64 rate, .int .i64 value, .slice B9 ps.length d9] 48 (0, 0)))
  have G31 := Lib.hid (Kd.C_alloc hx3 (.cells #[.int .i64 fr, .int .i64 to_, .int .i64 at_, .slice B3 vs.length d3, .int .i64 kind, .int .i64 code, .int .i64 id, .int .i64 rate, .int .i64 value, .slice B9 ps.length d9] 48 (0, 0)))
  have G91 := Lib.hid (Kd.C_alloc hx9 (.cells #[.int .i64 fr, .int .i64 to_, .int .i64 at_, .slice B3 vs.length d3, .int .i64 kind, .int .i64 code, .int .i64 id, .int .i64 rate, .int .i64 value, .slice B9 ps.length d9] 48 (0, 0)))
  clear HB0 HR0 HC3 HC9 hb1 g3 g9 hx3 hx9
  go_wp2_with fail
  generalize (w1.alloc (.cells #[.int .i64 fr, .int .i64 to_, .int .i64 at_, .slice B3 vs.length d3, .int .i64 kind, .int .i64 code, .int .i64 id, .int .i64 rate, .int .i64 value, .slice B9 ps.length d9] 48 (0, 0))) = W1 at HB1 HR1 HX1 H31 H91 G31 G91 ⊢
  refine (tell_Write.calls k fr to_ at_ B3 d3 vs kind code id rate value B9 d9 ps s er W1 G31.out hd3 G91.out hd9 hw).mono ?_
  rintro e w2 ⟨rfl, hb⟩
  have hr := blk_below HR1.out hb
  have hx := blk_below HX1.out hb
  have HB2 := Lib.hid (below_then HB1.out HB1.out.size hb)
  have HR2 := Lib.hid hr
  have HX2 := Lib.hid hx
  have H32 := Lib.hid (Kd.C_below H31.out hb)
  have H92 := Lib.hid (Kd.C_below H91.out hb)
  have G32 := Lib.hid (Kd.C_below G31.out hb)
  have G92 := Lib.hid (Kd.C_below G91.out hb)
  have p0 := blk_cell hr 0
  have q0 := blk_cell hx 0
  simp at p0 q0
  have p1 := blk_cell hr 1
  have q1 := blk_cell hx 1
  simp at p1 q1
  have p2 := blk_cell hr 2
  have q2 := blk_cell hx 2
  simp at p2 q2
  have p3 := blk_cell hr 3
  have q3 := blk_cell hx 3
  simp at p3 q3
  have p4 := blk_cell hr 4
  have q4 := blk_cell hx 4
  simp at p4 q4
  have p5 := blk_cell hr 5
  have q5 := blk_cell hx 5
  simp at p5 q5
  have p6 := blk_cell hr 6
  have q6 := blk_cell hx 6
  simp at p6 q6
  have p7 := blk_cell hr 7
  have q7 := blk_cell hx 7
  simp at p7 q7
  have p8 := blk_cell hr 8
  have q8 := blk_cell hx 8
  simp at p8 q8
  have p9 := blk_cell hr 9
  have q9 := blk_cell hx 9
  simp at p9 q9
  clear hr hx hb HB1 HR1 HX1 H31 H91 G31 G91
  go_wp2_with fail
  refine (tollbarref22_WriteTell.calls k fr to_ at_ A3 c3 vs kind code id rate value A9 c9 ps s er w2 H32.out hc3 H92.out hc9 hwr).mono ?_
  rintro e w3 ⟨rfl, hb⟩
  have hr := blk_below HR2.out hb
  have hx := blk_below HX2.out hb
  have HB3 := Lib.hid (below_then HB2.out HB2.out.size hb)
  have H33 := Lib.hid (Kd.C_below H32.out hb)
  have H93 := Lib.hid (Kd.C_below H92.out hb)
  have G33 := Lib.hid (Kd.C_below G32.out hb)
  have G93 := Lib.hid (Kd.C_below G92.out hb)
  clear p0 q0
  have p0 := blk_cell hr 0
  have q0 := blk_cell hx 0
  simp at p0 q0
  have y0 := Later.cell p0
  have z0 := Later.cell q0
  clear p0 q0
  clear p1 q1
  have p1 := blk_cell hr 1
  have q1 := blk_cell hx 1
  simp at p1 q1
  have y1 := Later.cell p1
  have z1 := Later.cell q1
  clear p1 q1
  clear p2 q2
  have p2 := blk_cell hr 2
  have q2 := blk_cell hx 2
  simp at p2 q2
  have y2 := Later.cell p2
  have z2 := Later.cell q2
  clear p2 q2
  clear p3 q3
  have p3 := blk_cell hr 3
  have q3 := blk_cell hx 3
  simp at p3 q3
  have y3 := Later.cell p3
  have z3 := Later.cell q3
  clear p3 q3
  clear p4 q4
  have p4 := blk_cell hr 4
  have q4 := blk_cell hx 4
  simp at p4 q4
  have y4 := Later.cell p4
  have z4 := Later.cell q4
  clear p4 q4
  clear p5 q5
  have p5 := blk_cell hr 5
  have q5 := blk_cell hx 5
  simp at p5 q5
  have y5 := Later.cell p5
  have z5 := Later.cell q5
  clear p5 q5
  clear p6 q6
  have p6 := blk_cell hr 6
  have q6 := blk_cell hx 6
  simp at p6 q6
  have y6 := Later.cell p6
  have z6 := Later.cell q6
  clear p6 q6
  clear p7 q7
  have p7 := blk_cell hr 7
  have q7 := blk_cell hx 7
  simp at p7 q7
  have y7 := Later.cell p7
  have z7 := Later.cell q7
  clear p7 q7
  clear p8 q8
  have p8 := blk_cell hr 8
  have q8 := blk_cell hx 8
  simp at p8 q8
  have y8 := Later.cell p8
  have z8 := Later.cell q8
  clear p8 q8
  clear p9 q9
  have p9 := blk_cell hr 9
  have q9 := blk_cell hx 9
  simp at p9 q9
  have y9 := Later.cell p9
  have z9 := Later.cell q9
  clear p9 q9
  clear hr hx hb HB2 HR2 HX2 H32 H92 G32 G92
  have HA : Hid (∀ W : Later w3, Calls Try.prog 26 #[] W.at fun e w' => e = .returned (.bool true) ∧ Below W.at.heap.size W.at w') := Lib.hid (fun W => awake_is _)
  have HN : Hid (∀ W : Later w3, Calls Try.prog 17 #[.int .i64 er] W.at fun e w' => e = .returned (.int .i64 er) ∧ Below W.at.heap.size W.at w') := Lib.hid (fun W => (num_is _ _).mono (by rintro e w' ⟨rfl, rfl⟩; exact ⟨rfl, Below.refl _ _⟩))
  have HM := Lib.hid (fun W : Later w3 => tell_May.calls fr to_ at_ B3 d3 vs kind code id rate value B9 d9 ps b W.at (Kd.C_below G33.out W.below) hd3 (Kd.C_below G93.out W.below) hd9 hm)
  have HQ := Lib.hid (fun W : Later w3 => tollbarref22_ReplyMay.calls k fr to_ at_ A3 c3 vs kind code id rate value A9 c9 ps b W.at (Kd.C_below H33.out W.below) hc3 (Kd.C_below H93.out W.below) hc9 hrm)
  have HS := Lib.hid (fun W : Later w3 => tollbarlaw0_SameReply.calls k fr to_ at_ B3 d3 vs kind code id rate value B9 d9 ps fr to_ at_ A3 c3 vs kind code id rate value A9 c9 ps true W.at (Kd.C_below G33.out W.below) hd3 (Kd.C_below G93.out W.below) hd9 (Kd.C_below H33.out W.below) hc3 (Kd.C_below H93.out W.below) hc9 hs)
  clear H33 H93 G33 G93 hcp hw hwr hm hrm hs
  go_wp2_with fail
  refine wp_region_later (by kernel_rfl) (by kernel_rfl) ?_
  repeat (go_big_quiet_step (first | (go_at_call 26; exact later_of (HA.out _)) | (go_at_call 27; exact later_of (HM.out _)) | (go_at_call 28; exact later_of (HQ.out _)) | (go_at_call 17; exact later_of (HN.out _)) | (go_at_call 29; exact later_of (HS.out _))))
  refine wpQuiet_nil ?_
  rintro _ ⟨W, rfl⟩
  have HB5 := Lib.hid (below_then HB3.out HB3.out.size W.below)
  clear y0 y1 y2 y3 y4 y5 y6 y7 y8 y9 z0 z1 z2 z3 z4 z5 z6 z7 z8 z9 HA HN HM HQ HS HB3
  go_wp2_with fail
  go_ret
  exact ⟨by simp, HB5.out⟩
open Classical in
noncomputable def tollbarlaw23_Tells.f (k : Nat) (fr to_ at_ : Int) (vs : List Int) (kind code id rate value : Int) (ps : List S76) : Option Bool :=
  if tollbarlaw0_CopyReply.f k fr to_ at_ vs kind code id rate value ps = some (fr, to_, at_, vs, kind, code, id, rate, value, ps) ∧ (∃ s er, tell_Write.f k fr to_ at_ vs kind code id rate value ps = some (s, er) ∧ tollbarref22_WriteTell.f k fr to_ at_ vs kind code id rate value ps = some (s, er)) ∧ (∃ b, tell_May.f fr to_ at_ vs kind code id rate value ps = some b ∧ tollbarref22_ReplyMay.f k fr to_ at_ vs kind code id rate value ps = some b) ∧ tollbarlaw0_SameReply.f k fr to_ at_ vs kind code id rate value ps fr to_ at_ vs kind code id rate value ps = some true then some true else none
theorem tollbarlaw23_Tells.calls (k : Nat) (fr to_ at_ : Int) (A3 : Option Addr) (c3 : Nat) (vs : List Int) (kind code id rate value : Int) (A9 : Option Addr) (c9 : Nat) (ps : List S76) (r : Bool) (w : World) (hr3 : Kd.C (Kd.int .i64) w A3 vs.length vs) (hc3 : vs.length ≤ c3) (hr9 : Kd.C k76 w A9 ps.length ps) (hc9 : ps.length ≤ c9) (h : tollbarlaw23_Tells.f k fr to_ at_ vs kind code id rate value ps = some r) :
    Calls Try.prog 8 #[.agg #[.int .i64 fr, .int .i64 to_, .int .i64 at_, .slice A3 vs.length c3, .int .i64 kind, .int .i64 code, .int .i64 id, .int .i64 rate, .int .i64 value, .slice A9 ps.length c9]] w fun e w' => e = .returned (.bool r) ∧ Below w.heap.size w w' := by
  unfold tollbarlaw23_Tells.f at h
  split at h
  case isFalse => cases h
  case isTrue hh =>
    obtain rfl := Option.some.inj h
    obtain ⟨h1, ⟨s, er, h2, h3⟩, ⟨b, h4, h5⟩, h6⟩ := hh
    exact tells_walk k fr to_ at_ A3 c3 vs kind code id rate value A9 c9 ps b s er w hr3 hc3 hr9 hc9 h1 h2 h3 h4 h5 h6
end Go.Proofs.Yteikgpdjfhdneaa.Man
