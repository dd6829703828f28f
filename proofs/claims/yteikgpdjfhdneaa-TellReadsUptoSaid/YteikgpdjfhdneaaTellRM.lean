/- tollbarref22.ReplyMay: what it answers, and that the call answers so (printed by gen_tellRM.py). -/
import Derived.Test.YteikgpdjfhdneaaTellS
import Derived.Test.YteikgpdjfhdneaaQRm
import Derived.Test.YteikgpdjfhdneaaQHm
set_option linter.unusedVariables false
set_option linter.unusedSimpArgs false
namespace Go.Proofs.Yteikgpdjfhdneaa.Man
open Go.RowKit Go.Proofs.Yteikgpdjfhdneaa.QT Go.Proofs.Yteikgpdjfhdneaa.QR Go.Proofs.Yteikgpdjfhdneaa.QH Go.Proofs.YteikgpdjfhdneaaW.PrintWords Go.Proofs.YteikgpdjfhdneaaW.PrintLast Go.Proofs.YteikgpdjfhdneaaW.PrintMore
def tollbarref22_ReplyMay.f (k : Nat) (fr to_ at_ : Int) (vs : List Int) (kind code id rate value : Int) (ps : List S76) : Option Bool :=
  if kind = 1 then (if 1 ≤ code ∧ code ≤ 9 then (tollbarref19_SameReply.f k 0 0 0 ([] : List Int) kind code 0 0 0 ([] : List S76) fr to_ at_ vs kind code id rate value ps) else some false)
  else if kind = 2 then ((tollbarref22_grantMay.f k fr to_ at_ vs kind code id rate value ps).bind fun b => if b = true then (tollbarref19_SameReply.f k fr to_ 0 ([] : List Int) kind 0 id rate 0 ps fr to_ at_ vs kind code id rate value ps) else some false)
  else if kind = 3 then ((tollbarref22_cutMay.f k at_ vs).bind fun b => if b = true then (tollbarref19_SameReply.f k 0 0 at_ vs kind 0 0 0 0 ([] : List S76) fr to_ at_ vs kind code id rate value ps) else some false)
  else if kind = 4 then (tollbarref19_SameReply.f k 0 0 0 ([] : List Int) kind 0 0 0 0 ([] : List S76) fr to_ at_ vs kind code id rate value ps)
  else if kind = 5 then (if 0 ≤ value ∧ value ≤ 4611686018427387904 then (tollbarref19_SameReply.f k 0 0 0 ([] : List Int) kind 0 0 0 value ([] : List S76) fr to_ at_ vs kind code id rate value ps) else some false)
  else some false
theorem tollbarref22_ReplyMay.mono : ∀ a0 a1 a2 a3 a4 a5 a6 a7 a8 a9 k, LeO (tollbarref22_ReplyMay.f k a0 a1 a2 a3 a4 a5 a6 a7 a8 a9) (tollbarref22_ReplyMay.f (k + 1) a0 a1 a2 a3 a4 a5 a6 a7 a8 a9) := by
  intro a0 a1 a2 a3 a4 a5 a6 a7 a8 a9 k
  unfold tollbarref22_ReplyMay.f
  repeat' first
      | exact tollbarref19_SameReply.mono _ _ _ _ _ _ _ _ _ _ _ _ _ _ _ _ _ _ _ _ _
      | exact tollbarref22_grantMay.mono _ _ _ _ _ _ _ _ _ _ _
      | exact tollbarref22_cutMay.mono _ _ _
      | exact LeO.refl _
      | refine LeO.ite ?_ ?_
      | refine LeO.bind ?_ (fun _ => ?_)
theorem refRate_is (x : Int) (w : World) : Calls Try.prog 51 #[.int .i64 x] w fun e w' => e = .returned (.bool (decide (0 ≤ x) && decide (x ≤ 4611686018427387904))) ∧ w = w' := by
  cases h : decide (0 ≤ x)
  all_goals
    go_enter Try.func51, Try.ntmps51
    go_wp2
    go_ret
    exact ⟨rfl, rfl⟩
set_option maxHeartbeats 4000000 in
set_option maxRecDepth 100000 in
theorem rm1_no (k : Nat) (fr to_ at_ : Int) (A3 : Option Addr) (c3 : Nat) (vs : List Int) (code id rate value : Int) (A9 : Option Addr) (c9 : Nat) (ps : List S76) (w : World) (hr3 : Kd.C (Kd.int .i64) w A3 vs.length vs) (hc3 : vs.length ≤ c3) (hr9 : Kd.C k76 w A9 ps.length ps) (hc9 : ps.length ≤ c9) (h1 : ¬ (1 ≤ code ∧ code ≤ 9)) :
    Calls Try.prog 28 #[.agg #[.int .i64 fr, .int .i64 to_, .int .i64 at_, .slice A3 vs.length c3, .int .i64 1, .int .i64 code, .int .i64 id, .int .i64 rate, .int .i64 value, .slice A9 ps.length c9]] w fun e w' => e = .returned (.bool false) ∧ Below w.heap.size w w' := by
  have HB := Lib.hid (((Below.refl w.heap.size w).alloc (Nat.le_refl _) (.cells #[.int .i64 fr, .int .i64 to_, .int .i64 at_, .slice A3 vs.length c3, .int .i64 1, .int .i64 code, .int .i64 id, .int .i64 rate, .int .i64 value, .slice A9 ps.length c9] 48 (0, 0))).alloc (by simp) (.cells #[.int .i64 0, .int .i64 0, .int .i64 0, .slice none 0 0, .int .i64 1, .int .i64 code, .int .i64 0, .int .i64 0, .int .i64 0, .slice none 0 0] 48 (0, 0)))
  have HC3 := Lib.hid (Kd.C_alloc (Kd.C_alloc hr3 (.cells #[.int .i64 fr, .int .i64 to_, .int .i64 at_, .slice A3 vs.length c3, .int .i64 1, .int .i64 code, .int .i64 id, .int .i64 rate, .int .i64 value, .slice A9 ps.length c9] 48 (0, 0))) (.cells #[.int .i64 0, .int .i64 0, .int .i64 0, .slice none 0 0, .int .i64 1, .int .i64 code, .int .i64 0, .int .i64 0, .int .i64 0, .slice none 0 0] 48 (0, 0)))
  have HC9 := Lib.hid (Kd.C_alloc (Kd.C_alloc hr9 (.cells #[.int .i64 fr, .int .i64 to_, .int .i64 at_, .slice A3 vs.length c3, .int .i64 1, .int .i64 code, .int .i64 id, .int .i64 rate, .int .i64 value, .slice A9 ps.length c9] 48 (0, 0))) (.cells #[.int .i64 0, .int .i64 0, .int .i64 0, .slice none 0 0, .int .i64 1, .int .i64 code, .int .i64 0, .int .i64 0, .int .i64 0, .slice none 0 0] 48 (0, 0)))
  have HR := Lib.hid (blk_alloc (blk_new w (.cells #[.int .i64 fr, .int .i64 to_, .int .i64 at_, .slice A3 vs.length c3, .int .i64 1, .int .i64 code, .int .i64 id, .int .i64 rate, .int .i64 value, .slice A9 ps.length c9] 48 (0, 0))) (.cells #[.int .i64 0, .int .i64 0, .int .i64 0, .slice none 0 0, .int .i64 1, .int .i64 code, .int .i64 0, .int .i64 0, .int .i64 0, .slice none 0 0] 48 (0, 0)))
  have HX := Lib.hid (blk_new (w.alloc (.cells #[.int .i64 fr, .int .i64 to_, .int .i64 at_, .slice A3 vs.length c3, .int .i64 1, .int .i64 code, .int .i64 id, .int .i64 rate, .int .i64 value, .slice A9 ps.length c9] 48 (0, 0))) (.cells #[.int .i64 0, .int .i64 0, .int .i64 0, .slice none 0 0, .int .i64 1, .int .i64 code, .int .i64 0, .int .i64 0, .int .i64 0, .slice none 0 0] 48 (0, 0)))
  have HS : Hid ((w.alloc (.cells #[.int .i64 fr, .int .i64 to_, .int .i64 at_, .slice A3 vs.length c3, .int .i64 1, .int .i64 code, .int .i64 id, .int .i64 rate, .int .i64 value, .slice A9 ps.length c9] 48 (0, 0))).heap.size = w.heap.size + 1) := Lib.hid (by simp)
  rw [HS.out] at HX
  clear hr3 hr9
  go_enter Try.func28, Try.ntmps28
  by_cases h2 : 1 ≤ code
  · have h3 : ¬ code ≤ 9 := fun h => h1 ⟨h2, h⟩
    have h4 : 9 < code := by omega
    clear h1
    go_wp2_with fail
    go_ret
    exact ⟨rfl, HB.out⟩
  · have h4 : code < 1 := by omega
    clear h1
    go_wp2_with fail
    go_ret
    exact ⟨rfl, HB.out⟩
set_option maxHeartbeats 4000000 in
set_option maxRecDepth 100000 in
theorem rm1 (k : Nat) (fr to_ at_ : Int) (A3 : Option Addr) (c3 : Nat) (vs : List Int) (code id rate value : Int) (A9 : Option Addr) (c9 : Nat) (ps : List S76) (w : World) (hr3 : Kd.C (Kd.int .i64) w A3 vs.length vs) (hc3 : vs.length ≤ c3) (hr9 : Kd.C k76 w A9 ps.length ps) (hc9 : ps.length ≤ c9) (h1 : 1 ≤ code) (h2 : code ≤ 9) (sb : Bool) (hs : tollbarref19_SameReply.f k 0 0 0 ([] : List Int) 1 code 0 0 0 ([] : List S76) fr to_ at_ vs 1 code id rate value ps = some sb) :
    Calls Try.prog 28 #[.agg #[.int .i64 fr, .int .i64 to_, .int .i64 at_, .slice A3 vs.length c3, .int .i64 1, .int .i64 code, .int .i64 id, .int .i64 rate, .int .i64 value, .slice A9 ps.length c9]] w fun e w' => e = .returned (.bool sb) ∧ Below w.heap.size w w' := by
  have HB := Lib.hid (((Below.refl w.heap.size w).alloc (Nat.le_refl _) (.cells #[.int .i64 fr, .int .i64 to_, .int .i64 at_, .slice A3 vs.length c3, .int .i64 1, .int .i64 code, .int .i64 id, .int .i64 rate, .int .i64 value, .slice A9 ps.length c9] 48 (0, 0))).alloc (by simp) (.cells #[.int .i64 0, .int .i64 0, .int .i64 0, .slice none 0 0, .int .i64 1, .int .i64 code, .int .i64 0, .int .i64 0, .int .i64 0, .slice none 0 0] 48 (0, 0)))
  have HC3 := Lib.hid (Kd.C_alloc (Kd.C_alloc hr3 (.cells #[.int .i64 fr, .int .i64 to_, .int .i64 at_, .slice A3 vs.length c3, .int .i64 1, .int .i64 code, .int .i64 id, .int .i64 rate, .int .i64 value, .slice A9 ps.length c9] 48 (0, 0))) (.cells #[.int .i64 0, .int .i64 0, .int .i64 0, .slice none 0 0, .int .i64 1, .int .i64 code, .int .i64 0, .int .i64 0, .int .i64 0, .slice none 0 0] 48 (0, 0)))
  have HC9 := Lib.hid (Kd.C_alloc (Kd.C_alloc hr9 (.cells #[.int .i64 fr, .int .i64 to_, .int .i64 at_, .slice A3 vs.length c3, .int .i64 1, .int .i64 code, .int .i64 id, .int .i64 rate, .int .i64 value, .slice A9 ps.length c9] 48 (0, 0))) (.cells #[.int .i64 0, .int .i64 0, .int .i64 0, .slice none 0 0, .int .i64 1, .int .i64 code, .int .i64 0, .int .i64 0, .int .i64 0, .slice none 0 0] 48 (0, 0)))
  have HR := Lib.hid (blk_alloc (blk_new w (.cells #[.int .i64 fr, .int .i64 to_, .int .i64 at_, .slice A3 vs.length c3, .int .i64 1, .int .i64 code, .int .i64 id, .int .i64 rate, .int .i64 value, .slice A9 ps.length c9] 48 (0, 0))) (.cells #[.int .i64 0, .int .i64 0, .int .i64 0, .slice none 0 0, .int .i64 1, .int .i64 code, .int .i64 0, .int .i64 0, .int .i64 0, .slice none 0 0] 48 (0, 0)))
  have HX := Lib.hid (blk_new (w.alloc (.cells #[.int .i64 fr, .int .i64 to_, .int .i64 at_, .slice A3 vs.length c3, .int .i64 1, .int .i64 code, .int .i64 id, .int .i64 rate, .int .i64 value, .slice A9 ps.length c9] 48 (0, 0))) (.cells #[.int .i64 0, .int .i64 0, .int .i64 0, .slice none 0 0, .int .i64 1, .int .i64 code, .int .i64 0, .int .i64 0, .int .i64 0, .slice none 0 0] 48 (0, 0)))
  have HS : Hid ((w.alloc (.cells #[.int .i64 fr, .int .i64 to_, .int .i64 at_, .slice A3 vs.length c3, .int .i64 1, .int .i64 code, .int .i64 id, .int .i64 rate, .int .i64 value, .slice A9 ps.length c9] 48 (0, 0))).heap.size = w.heap.size + 1) := Lib.hid (by simp)
  rw [HS.out] at HX
  clear hr3 hr9
  go_enter Try.func28, Try.ntmps28
  go_wp2_with fail
  refine (tollbarref19_SameReply.calls k 0 0 0 none 0 [] 1 code 0 0 0 none 0 [] fr to_ at_ A3 c3 vs 1 code id rate value A9 c9 ps sb _ (Kd.C_nil _ _) (Nat.le_refl _) (Kd.C_nil _ _) (Nat.le_refl _) HC3.out hc3 HC9.out hc9 hs).mono ?_
  rintro e w5 ⟨rfl, hb5⟩
  have HB5 := Lib.hid (below_then HB.out HB.out.size hb5)
  clear hb5
  go_wp2_with fail
  go_ret
  exact ⟨rfl, HB5.out⟩
set_option maxHeartbeats 4000000 in
set_option maxRecDepth 100000 in
theorem rm4 (k : Nat) (fr to_ at_ : Int) (A3 : Option Addr) (c3 : Nat) (vs : List Int) (code id rate value : Int) (A9 : Option Addr) (c9 : Nat) (ps : List S76) (w : World) (hr3 : Kd.C (Kd.int .i64) w A3 vs.length vs) (hc3 : vs.length ≤ c3) (hr9 : Kd.C k76 w A9 ps.length ps) (hc9 : ps.length ≤ c9) (sb : Bool) (hs : tollbarref19_SameReply.f k 0 0 0 ([] : List Int) 4 0 0 0 0 ([] : List S76) fr to_ at_ vs 4 code id rate value ps = some sb) :
    Calls Try.prog 28 #[.agg #[.int .i64 fr, .int .i64 to_, .int .i64 at_, .slice A3 vs.length c3, .int .i64 4, .int .i64 code, .int .i64 id, .int .i64 rate, .int .i64 value, .slice A9 ps.length c9]] w fun e w' => e = .returned (.bool sb) ∧ Below w.heap.size w w' := by
  have HB := Lib.hid (((Below.refl w.heap.size w).alloc (Nat.le_refl _) (.cells #[.int .i64 fr, .int .i64 to_, .int .i64 at_, .slice A3 vs.length c3, .int .i64 4, .int .i64 code, .int .i64 id, .int .i64 rate, .int .i64 value, .slice A9 ps.length c9] 48 (0, 0))).alloc (by simp) (.cells #[.int .i64 0, .int .i64 0, .int .i64 0, .slice none 0 0, .int .i64 4, .int .i64 0, .int .i64 0, .int .i64 0, .int .i64 0, .slice none 0 0] 48 (0, 0)))
  have HC3 := Lib.hid (Kd.C_alloc (Kd.C_alloc hr3 (.cells #[.int .i64 fr, .int .i64 to_, .int .i64 at_, .slice A3 vs.length c3, .int .i64 4, .int .i64 code, .int .i64 id, .int .i64 rate, .int .i64 value, .slice A9 ps.length c9] 48 (0, 0))) (.cells #[.int .i64 0, .int .i64 0, .int .i64 0, .slice none 0 0, .int .i64 4, .int .i64 0, .int .i64 0, .int .i64 0, .int .i64 0, .slice none 0 0] 48 (0, 0)))
  have HC9 := Lib.hid (Kd.C_alloc (Kd.C_alloc hr9 (.cells #[.int .i64 fr, .int .i64 to_, .int .i64 at_, .slice A3 vs.length c3, .int .i64 4, .int .i64 code, .int .i64 id, .int .i64 rate, .int .i64 value, .slice A9 ps.length c9] 48 (0, 0))) (.cells #[.int .i64 0, .int .i64 0, .int .i64 0, .slice none 0 0, .int .i64 4, .int .i64 0, .int .i64 0, .int .i64 0, .int .i64 0, .slice none 0 0] 48 (0, 0)))
  have HR := Lib.hid (blk_alloc (blk_new w (.cells #[.int .i64 fr, .int .i64 to_, .int .i64 at_, .slice A3 vs.length c3, .int .i64 4, .int .i64 code, .int .i64 id, .int .i64 rate, .int .i64 value, .slice A9 ps.length c9] 48 (0, 0))) (.cells #[.int .i64 0, .int .i64 0, .int .i64 0, .slice none 0 0, .int .i64 4, .int .i64 0, .int .i64 0, .int .i64 0, .int .i64 0, .slice none 0 0] 48 (0, 0)))
  have HX := Lib.hid (blk_new (w.alloc (.cells #[.int .i64 fr, .int .i64 to_, .int .i64 at_, .slice A3 vs.length c3, .int .i64 4, .int .i64 code, .int .i64 id, .int .i64 rate, .int .i64 value, .slice A9 ps.length c9] 48 (0, 0))) (.cells #[.int .i64 0, .int .i64 0, .int .i64 0, .slice none 0 0, .int .i64 4, .int .i64 0, .int .i64 0, .int .i64 0, .int .i64 0, .slice none 0 0] 48 (0, 0)))
  have HS : Hid ((w.alloc (.cells #[.int .i64 fr, .int .i64 to_, .int .i64 at_, .slice A3 vs.length c3, .int .i64 4, .int .i64 code, .int .i64 id, .int .i64 rate, .int .i64 value, .slice A9 ps.length c9] 48 (0, 0))).heap.size = w.heap.size + 1) := Lib.hid (by simp)
  rw [HS.out] at HX
  clear hr3 hr9
  go_enter Try.func28, Try.ntmps28
  go_wp2_with fail
  refine (tollbarref19_SameReply.calls k 0 0 0 none 0 [] 4 0 0 0 0 none 0 [] fr to_ at_ A3 c3 vs 4 code id rate value A9 c9 ps sb _ (Kd.C_nil _ _) (Nat.le_refl _) (Kd.C_nil _ _) (Nat.le_refl _) HC3.out hc3 HC9.out hc9 hs).mono ?_
  rintro e w5 ⟨rfl, hb5⟩
  have HB5 := Lib.hid (below_then HB.out HB.out.size hb5)
  clear hb5
  go_wp2_with fail
  go_ret
  exact ⟨rfl, HB5.out⟩
set_option maxHeartbeats 4000000 in
set_option maxRecDepth 100000 in
theorem rm2_no (k : Nat) (fr to_ at_ : Int) (A3 : Option Addr) (c3 : Nat) (vs : List Int) (code id rate value : Int) (A9 : Option Addr) (c9 : Nat) (ps : List S76) (w : World) (hr3 : Kd.C (Kd.int .i64) w A3 vs.length vs) (hc3 : vs.length ≤ c3) (hr9 : Kd.C k76 w A9 ps.length ps) (hc9 : ps.length ≤ c9) (hg : tollbarref22_grantMay.f k fr to_ at_ vs 2 code id rate value ps = some false) :
    Calls Try.prog 28 #[.agg #[.int .i64 fr, .int .i64 to_, .int .i64 at_, .slice A3 vs.length c3, .int .i64 2, .int .i64 code, .int .i64 id, .int .i64 rate, .int .i64 value, .slice A9 ps.length c9]] w fun e w' => e = .returned (.bool false) ∧ Below w.heap.size w w' := by
  have HB := Lib.hid (((Below.refl w.heap.size w).alloc (Nat.le_refl _) (.cells #[.int .i64 fr, .int .i64 to_, .int .i64 at_, .slice A3 vs.length c3, .int .i64 2, .int .i64 code, .int .i64 id, .int .i64 rate, .int .i64 value, .slice A9 ps.length c9] 48 (0, 0))).alloc (by simp) (.cells #[.int .i64 fr, .int .i64 to_, .int .i64 0, .slice none 0 0, .int .i64 2, .int .i64 0, .int .i64 id, .int .i64 rate, .int .i64 0, .slice A9 ps.length c9] 48 (0, 0)))
  have HC3 := Lib.hid (Kd.C_alloc (Kd.C_alloc hr3 (.cells #[.int .i64 fr, .int .i64 to_, .int .i64 at_, .slice A3 vs.length c3, .int .i64 2, .int .i64 code, .int .i64 id, .int .i64 rate, .int .i64 value, .slice A9 ps.length c9] 48 (0, 0))) (.cells #[.int .i64 fr, .int .i64 to_, .int .i64 0, .slice none 0 0, .int .i64 2, .int .i64 0, .int .i64 id, .int .i64 rate, .int .i64 0, .slice A9 ps.length c9] 48 (0, 0)))
  have HC9 := Lib.hid (Kd.C_alloc (Kd.C_alloc hr9 (.cells #[.int .i64 fr, .int .i64 to_, .int .i64 at_, .slice A3 vs.length c3, .int .i64 2, .int .i64 code, .int .i64 id, .int .i64 rate, .int .i64 value, .slice A9 ps.length c9] 48 (0, 0))) (.cells #[.int .i64 fr, .int .i64 to_, .int .i64 0, .slice none 0 0, .int .i64 2, .int .i64 0, .int .i64 id, .int .i64 rate, .int .i64 0, .slice A9 ps.length c9] 48 (0, 0)))
  have HR := Lib.hid (blk_alloc (blk_new w (.cells #[.int .i64 fr, .int .i64 to_, .int .i64 at_, .slice A3 vs.length c3, .int .i64 2, .int .i64 code, .int .i64 id, .int .i64 rate, .int .i64 value, .slice A9 ps.length c9] 48 (0, 0))) (.cells #[.int .i64 fr, .int .i64 to_, .int .i64 0, .slice none 0 0, .int .i64 2, .int .i64 0, .int .i64 id, .int .i64 rate, .int .i64 0, .slice A9 ps.length c9] 48 (0, 0)))
  have HX := Lib.hid (blk_new (w.alloc (.cells #[.int .i64 fr, .int .i64 to_, .int .i64 at_, .slice A3 vs.length c3, .int .i64 2, .int .i64 code, .int .i64 id, .int .i64 rate, .int .i64 value, .slice A9 ps.length c9] 48 (0, 0))) (.cells #[.int .i64 fr, .int .i64 to_, .int .i64 0, .slice none 0 0, .int .i64 2, .int .i64 0, .int .i64 id, .int .i64 rate, .int .i64 0, .slice A9 ps.length c9] 48 (0, 0)))
  have HS : Hid ((w.alloc (.cells #[.int .i64 fr, .int .i64 to_, .int .i64 at_, .slice A3 vs.length c3, .int .i64 2, .int .i64 code, .int .i64 id, .int .i64 rate, .int .i64 value, .slice A9 ps.length c9] 48 (0, 0))).heap.size = w.heap.size + 1) := Lib.hid (by simp)
  rw [HS.out] at HX
  clear hr3 hr9
  go_enter Try.func28, Try.ntmps28
  go_wp2_with fail
  refine (tollbarref22_grantMay.calls k fr to_ at_ A3 c3 vs 2 code id rate value A9 c9 ps false _ HC3.out hc3 HC9.out hc9 hg).mono ?_
  rintro e w2 ⟨rfl, hb2⟩
  have hr := blk_below HR.out hb2
  have hx := blk_below HX.out hb2
  have HB2 := Lib.hid (below_then HB.out HB.out.size hb2)
  have HC32 := Lib.hid (Kd.C_below HC3.out hb2)
  have HC92 := Lib.hid (Kd.C_below HC9.out hb2)
  have p0 := blk_cell hr 0
  have q0 := blk_cell hx 0
  simp at p0 q0
  have p1 := blk_cell hr 1
  have q1 := blk_cell hx 1
  simp at p1 q1
  have p2 := blk_cell hr 2
  have q2 := blk_cell hx 2
  simp at p2 q2
  have p3 := blk_cell hr 3
  have q3 := blk_cell hx 3
  simp at p3 q3
  have p4 := blk_cell hr 4
  have q4 := blk_cell hx 4
  simp at p4 q4
  have p5 := blk_cell hr 5
  have q5 := blk_cell hx 5
  simp at p5 q5
  have p6 := blk_cell hr 6
  have q6 := blk_cell hx 6
  simp at p6 q6
  have p7 := blk_cell hr 7
  have q7 := blk_cell hx 7
  simp at p7 q7
  have p8 := blk_cell hr 8
  have q8 := blk_cell hx 8
  simp at p8 q8
  have p9 := blk_cell hr 9
  have q9 := blk_cell hx 9
  simp at p9 q9
  clear HB HC3 HC9 HR HX hb2 hr hx
  have HB := HB2
  have HC3 := HC32
  have HC9 := HC92
  clear HB2 HC32 HC92
  go_wp2_with fail
  go_ret
  exact ⟨rfl, HB.out⟩
set_option maxHeartbeats 4000000 in
set_option maxRecDepth 100000 in
theorem rm2 (k : Nat) (fr to_ at_ : Int) (A3 : Option Addr) (c3 : Nat) (vs : List Int) (code id rate value : Int) (A9 : Option Addr) (c9 : Nat) (ps : List S76) (w : World) (hr3 : Kd.C (Kd.int .i64) w A3 vs.length vs) (hc3 : vs.length ≤ c3) (hr9 : Kd.C k76 w A9 ps.length ps) (hc9 : ps.length ≤ c9) (hg : tollbarref22_grantMay.f k fr to_ at_ vs 2 code id rate value ps = some true) (sb : Bool) (hs : tollbarref19_SameReply.f k fr to_ 0 ([] : List Int) 2 0 id rate 0 ps fr to_ at_ vs 2 code id rate value ps = some sb) :
    Calls Try.prog 28 #[.agg #[.int .i64 fr, .int .i64 to_, .int .i64 at_, .slice A3 vs.length c3, .int .i64 2, .int .i64 code, .int .i64 id, .int .i64 rate, .int .i64 value, .slice A9 ps.length c9]] w fun e w' => e = .returned (.bool sb) ∧ Below w.heap.size w w' := by
  have HB := Lib.hid (((Below.refl w.heap.size w).alloc (Nat.le_refl _) (.cells #[.int .i64 fr, .int .i64 to_, .int .i64 at_, .slice A3 vs.length c3, .int .i64 2, .int .i64 code, .int .i64 id, .int .i64 rate, .int .i64 value, .slice A9 ps.length c9] 48 (0, 0))).alloc (by simp) (.cells #[.int .i64 fr, .int .i64 to_, .int .i64 0, .slice none 0 0, .int .i64 2, .int .i64 0, .int .i64 id, .int .i64 rate, .int .i64 0, .slice A9 ps.length c9] 48 (0, 0)))
  have HC3 := Lib.hid (Kd.C_alloc (Kd.C_alloc hr3 (.cells #[.int .i64 fr, .int .i64 to_, .int .i64 at_, .slice A3 vs.length c3, .int .i64 2, .int .i64 code, .int .i64 id, .int .i64 rate, .int .i64 value, .slice A9 ps.length c9] 48 (0, 0))) (.cells #[.int .i64 fr, .int .i64 to_, .int .i64 0, .slice none 0 0, .int .i64 2, .int .i64 0, .int .i64 id, .int .i64 rate, .int .i64 0, .slice A9 ps.length c9] 48 (0, 0)))
  have HC9 := Lib.hid (Kd.C_alloc (Kd.C_alloc hr9 (.cells #[.int .i64 fr, .int .i64 to_, .int .i64 at_, .slice A3 vs.length c3, .int .i64 2, .int .i64 code, .int .i64 id, .int .i64 rate, .int .i64 value, .slice A9 ps.length c9] 48 (0, 0))) (.cells #[.int .i64 fr, .int .i64 to_, .int .i64 0, .slice none 0 0, .int .i64 2, .int .i64 0, .int .i64 id, .int .i64 rate, .int .i64 0, .slice A9 ps.length c9] 48 (0, 0)))
  have HR := Lib.hid (blk_alloc (blk_new w (.cells #[.int .i64 fr, .int .i64 to_, .int .i64 at_, .slice A3 vs.length c3, .int .i64 2, .int .i64 code, .int .i64 id, .int .i64 rate, .int .i64 value, .slice A9 ps.length c9] 48 (0, 0))) (.cells #[.int .i64 fr, .int .i64 to_, .int .i64 0, .slice none 0 0, .int .i64 2, .int .i64 0, .int .i64 id, .int .i64 rate, .int .i64 0, .slice A9 ps.length c9] 48 (0, 0)))
  have HX := Lib.hid (blk_new (w.alloc (.cells #[.int .i64 fr, .int .i64 to_, .int .i64 at_, .slice A3 vs.length c3, .int .i64 2, .int .i64 code, .int .i64 id, .int .i64 rate, .int .i64 value, .slice A9 ps.length c9] 48 (0, 0))) (.cells #[.int .i64 fr, .int .i64 to_, .int .i64 0, .slice none 0 0, .int .i64 2, .int .i64 0, .int .i64 id, .int .i64 rate, .int .i64 0, .slice A9 ps.length c9] 48 (0, 0)))
  have HS : Hid ((w.alloc (.cells #[.int .i64 fr, .int .i64 to_, .int .i64 at_, .slice A3 vs.length c3, .int .i64 2, .int .i64 code, .int .i64 id, .int .i64 rate, .int .i64 value, .slice A9 ps.length c9] 48 (0, 0))).heap.size = w.heap.size + 1) := Lib.hid (by simp)
  rw [HS.out] at HX
  clear hr3 hr9
  go_enter Try.func28, Try.ntmps28
  go_wp2_with fail
  refine (tollbarref22_grantMay.calls k fr to_ at_ A3 c3 vs 2 code id rate value A9 c9 ps true _ HC3.out hc3 HC9.out hc9 hg).mono ?_
  rintro e w2 ⟨rfl, hb2⟩
  have hr := blk_below HR.out hb2
  have hx := blk_below HX.out hb2
  have HB2 := Lib.hid (below_then HB.out HB.out.size hb2)
  have HC32 := Lib.hid (Kd.C_below HC3.out hb2)
  have HC92 := Lib.hid (Kd.C_below HC9.out hb2)
  have p0 := blk_cell hr 0
  have q0 := blk_cell hx 0
  simp at p0 q0
  have p1 := blk_cell hr 1
  have q1 := blk_cell hx 1
  simp at p1 q1
  have p2 := blk_cell hr 2
  have q2 := blk_cell hx 2
  simp at p2 q2
  have p3 := blk_cell hr 3
  have q3 := blk_cell hx 3
  simp at p3 q3
  have p4 := blk_cell hr 4
  have q4 := blk_cell hx 4
  simp at p4 q4
  have p5 := blk_cell hr 5
  have q5 := blk_cell hx 5
  simp at p5 q5
  have p6 := blk_cell hr 6
  have q6 := blk_cell hx 6
  simp at p6 q6
  have p7 := blk_cell hr 7
  have q7 := blk_cell hx 7
  simp at p7 q7
  have p8 := blk_cell hr 8
  have q8 := blk_cell hx 8
  simp at p8 q8
  have p9 := blk_cell hr 9
  have q9 := blk_cell hx 9
  simp at p9 q9
  clear HB HC3 HC9 HR HX hb2 hr hx
  have HB := HB2
  have HC3 := HC32
  have HC9 := HC92
  clear HB2 HC32 HC92
  go_wp2_with fail
  refine (tollbarref19_SameReply.calls k fr to_ 0 none 0 [] 2 0 id rate 0 A9 c9 ps fr to_ at_ A3 c3 vs 2 code id rate value A9 c9 ps sb _ (Kd.C_nil _ _) (Nat.le_refl _) HC9.out hc9 HC3.out hc3 HC9.out hc9 hs).mono ?_
  rintro e w5 ⟨rfl, hb5⟩
  have HB5 := Lib.hid (below_then HB.out HB.out.size hb5)
  clear hb5
  go_wp2_with fail
  go_ret
  exact ⟨rfl, HB5.out⟩
set_option maxHeartbeats 4000000 in
set_option maxRecDepth 100000 in
theorem rm3_no (k : Nat) (fr to_ at_ : Int) (A3 : Option Addr) (c3 : Nat) (vs : List Int) (code id rate value : Int) (A9 : Option Addr) (c9 : Nat) (ps : List S76) (w : World) (hr3 : Kd.C (Kd.int .i64) w A3 vs.length vs) (hc3 : vs.length ≤ c3) (hr9 : Kd.C k76 w A9 ps.length ps) (hc9 : ps.length ≤ c9) (hg : tollbarref22_cutMay.f k at_ vs = some false) :
    Calls Try.prog 28 #[.agg #[.int .i64 fr, .int .i64 to_, .int .i64 at_, .slice A3 vs.length c3, .int .i64 3, .int .i64 code, .int .i64 id, .int .i64 rate, .int .i64 value, .slice A9 ps.length c9]] w fun e w' => e = .returned (.bool false) ∧ Below w.heap.size w w' := by
  have HB := Lib.hid (((Below.refl w.heap.size w).alloc (Nat.le_refl _) (.cells #[.int .i64 fr, .int .i64 to_, .int .i64 at_, .slice A3 vs.length c3, .int .i64 3, .int .i64 code, .int .i64 id, .int .i64 rate, .int .i64 value, .slice A9 ps.length c9] 48 (0, 0))).alloc (by simp) (.cells #[.int .i64 0, .int .i64 0, .int .i64 at_, .slice A3 vs.length c3, .int .i64 3, .int .i64 0, .int .i64 0, .int .i64 0, .int .i64 0, .slice none 0 0] 48 (0, 0)))
  have HC3 := Lib.hid (Kd.C_alloc (Kd.C_alloc hr3 (.cells #[.int .i64 fr, .int .i64 to_, .int .i64 at_, .slice A3 vs.length c3, .int .i64 3, .int .i64 code, .int .i64 id, .int .i64 rate, .int .i64 value, .slice A9 ps.length c9] 48 (0, 0))) (.cells #[.int .i64 0, .int .i64 0, .int .i64 at_, .slice A3 vs.length c3, .int .i64 3, .int .i64 0, .int .i64 0, .int .i64 0, .int .i64 0, .slice none 0 0] 48 (0, 0)))
  have HC9 := Lib.hid (Kd.C_alloc (Kd.C_alloc hr9 (.cells #[.int .i64 fr, .int .i64 to_, .int .i64 at_, .slice A3 vs.length c3, .int .i64 3, .int .i64 code, .int .i64 id, .int .i64 rate, .int .i64 value, .slice A9 ps.length c9] 48 (0, 0))) (.cells #[.int .i64 0, .int .i64 0, .int .i64 at_, .slice A3 vs.length c3, .int .i64 3, .int .i64 0, .int .i64 0, .int .i64 0, .int .i64 0, .slice none 0 0] 48 (0, 0)))
  have HR := Lib.hid (blk_alloc (blk_new w (.cells #[.int .i64 fr, .int .i64 to_, .int .i64 at_, .slice A3 vs.length c3, .int .i64 3, .int .i64 code, .int .i64 id, .int .i64 rate, .int .i64 value, .slice A9 ps.length c9] 48 (0, 0))) (.cells #[.int .i64 0, .int .i64 0, .int .i64 at_, .slice A3 vs.length c3, .int .i64 3, .int .i64 0, .int .i64 0, .int .i64 0, .int .i64 0, .slice none 0 0] 48 (0, 0)))
  have HX := Lib.hid (blk_new (w.alloc (.cells #[.int .i64 fr, .int .i64 to_, .int .i64 at_, .slice A3 vs.length c3, .int .i64 3, .int .i64 code, .int .i64 id, .int .i64 rate, .int .i64 value, .slice A9 ps.length c9] 48 (0, 0))) (.cells #[.int .i64 0, .int .i64 0, .int .i64 at_, .slice A3 vs.length c3, .int .i64 3, .int .i64 0, .int .i64 0, .int .i64 0, .int .i64 0, .slice none 0 0] 48 (0, 0)))
  have HS : Hid ((w.alloc (.cells #[.int .i64 fr, .int .i64 to_, .int .i64 at_, .slice A3 vs.length c3, .int .i64 3, .int .i64 code, .int .i64 id, .int .i64 rate, .int .i64 value, .slice A9 ps.length c9] 48 (0, 0))).heap.size = w.heap.size + 1) := Lib.hid (by simp)
  rw [HS.out] at HX
  clear hr3 hr9
  go_enter Try.func28, Try.ntmps28
  go_wp2_with fail
  refine (tollbarref22_cutMay.calls k at_ A3 c3 vs false _ HC3.out hc3 hg).mono ?_
  rintro e w2 ⟨rfl, hb2⟩
  have hr := blk_below HR.out hb2
  have hx := blk_below HX.out hb2
  have HB2 := Lib.hid (below_then HB.out HB.out.size hb2)
  have HC32 := Lib.hid (Kd.C_below HC3.out hb2)
  have HC92 := Lib.hid (Kd.C_below HC9.out hb2)
  have p0 := blk_cell hr 0
  have q0 := blk_cell hx 0
  simp at p0 q0
  have p1 := blk_cell hr 1
  have q1 := blk_cell hx 1
  simp at p1 q1
  have p2 := blk_cell hr 2
  have q2 := blk_cell hx 2
  simp at p2 q2
  have p3 := blk_cell hr 3
  have q3 := blk_cell hx 3
  simp at p3 q3
  have p4 := blk_cell hr 4
  have q4 := blk_cell hx 4
  simp at p4 q4
  have p5 := blk_cell hr 5
  have q5 := blk_cell hx 5
  simp at p5 q5
  have p6 := blk_cell hr 6
  have q6 := blk_cell hx 6
  simp at p6 q6
  have p7 := blk_cell hr 7
  have q7 := blk_cell hx 7
  simp at p7 q7
  have p8 := blk_cell hr 8
  have q8 := blk_cell hx 8
  simp at p8 q8
  have p9 := blk_cell hr 9
  have q9 := blk_cell hx 9
  simp at p9 q9
  clear HB HC3 HC9 HR HX hb2 hr hx
  have HB := HB2
  have HC3 := HC32
  have HC9 := HC92
  clear HB2 HC32 HC92
  go_wp2_with fail
  go_ret
  exact ⟨rfl, HB.out⟩
set_option maxHeartbeats 4000000 in
set_option maxRecDepth 100000 in
theorem rm3 (k : Nat) (fr to_ at_ : Int) (A3 : Option Addr) (c3 : Nat) (vs : List Int) (code id rate value : Int) (A9 : Option Addr) (c9 : Nat) (ps : List S76) (w : World) (hr3 : Kd.C (Kd.int .i64) w A3 vs.length vs) (hc3 : vs.length ≤ c3) (hr9 : Kd.C k76 w A9 ps.length ps) (hc9 : ps.length ≤ c9) (hg : tollbarref22_cutMay.f k at_ vs = some true) (sb : Bool) (hs : tollbarref19_SameReply.f k 0 0 at_ vs 3 0 0 0 0 ([] : List S76) fr to_ at_ vs 3 code id rate value ps = some sb) :
    Calls Try.prog 28 #[.agg #[.int .i64 fr, .int .i64 to_, .int .i64 at_, .slice A3 vs.length c3, .int .i64 3, .int .i64 code, .int .i64 id, .int .i64 rate, .int .i64 value, .slice A9 ps.length c9]] w fun e w' => e = .returned (.bool sb) ∧ Below w.heap.size w w' := by
  have HB := Lib.hid (((Below.refl w.heap.size w).alloc (Nat.le_refl _) (.cells #[.int .i64 fr, .int .i64 to_, .int .i64 at_, .slice A3 vs.length c3, .int .i64 3, .int .i64 code, .int .i64 id, .int .i64 rate, .int .i64 value, .slice A9 ps.length c9] 48 (0, 0))).alloc (by simp) (.cells #[.int .i64 0, .int .i64 0, .int .i64 at_, .slice A3 vs.length c3, .int .i64 3, .int .i64 0, .int .i64 0, .int .i64 0, .int .i64 0, .slice none 0 0] 48 (0, 0)))
  have HC3 := Lib.hid (Kd.C_alloc (Kd.C_alloc hr3 (.cells #[.int .i64 fr, .int .i64 to_, .int .i64 at_, .slice A3 vs.length c3, .int .i64 3, .int .i64 code, .int .i64 id, .int .i64 rate, .int .i64 value, .slice A9 ps.length c9] 48 (0, 0))) (.cells #[.int .i64 0, .int .i64 0, .int .i64 at_, .slice A3 vs.length c3, .int .i64 3, .int .i64 0, .int .i64 0, .int .i64 0, .int .i64 0, .slice none 0 0] 48 (0, 0)))
  have HC9 := Lib.hid (Kd.C_alloc (Kd.C_alloc hr9 (.cells #[.int .i64 fr, .int .i64 to_, .int .i64 at_, .slice A3 vs.length c3, .int .i64 3, .int .i64 code, .int .i64 id, .int .i64 rate, .int .i64 value, .slice A9 ps.length c9] 48 (0, 0))) (.cells #[.int .i64 0, .int .i64 0, .int .i64 at_, .slice A3 vs.length c3, .int .i64 3, .int .i64 0, .int .i64 0, .int .i64 0, .int .i64 0, .slice none 0 0] 48 (0, 0)))
  have HR := Lib.hid (blk_alloc (blk_new w (.cells #[.int .i64 fr, .int .i64 to_, .int .i64 at_, .slice A3 vs.length c3, .int .i64 3, .int .i64 code, .int .i64 id, .int .i64 rate, .int .i64 value, .slice A9 ps.length c9] 48 (0, 0))) (.cells #[.int .i64 0, .int .i64 0, .int .i64 at_, .slice A3 vs.length c3, .int .i64 3, .int .i64 0, .int .i64 0, .int .i64 0, .int .i64 0, .slice none 0 0] 48 (0, 0)))
  have HX := Lib.hid (blk_new (w.alloc (.cells #[.int .i64 fr, .int .i64 to_, .int .i64 at_, .slice A3 vs.length c3, .int .i64 3, .int .i64 code, .int .i64 id, .int .i64 rate, .int .i64 value, .slice A9 ps.length c9] 48 (0, 0))) (.cells #[.int .i64 0, .int .i64 0, .int .i64 at_, .slice A3 vs.length c3, .int .i64 3, .int .i64 0, .int .i64 0, .int .i64 0, .int .i64 0, .slice none 0 0] 48 (0, 0)))
  have HS : Hid ((w.alloc (.cells #[.int .i64 fr, .int .i64 to_, .int .i64 at_, .slice A3 vs.length c3, .int .i64 3, .int .i64 code, .int .i64 id, .int .i64 rate, .int .i64 value, .slice A9 ps.length c9] 48 (0, 0))).heap.size = w.heap.size + 1) := Lib.hid (by simp)
  rw [HS.out] at HX
  clear hr3 hr9
  go_enter Try.func28, Try.ntmps28
  go_wp2_with fail
  refine (tollbarref22_cutMay.calls k at_ A3 c3 vs true _ HC3.out hc3 hg).mono ?_
  rintro e w2 ⟨rfl, hb2⟩
  have hr := blk_below HR.out hb2
  have hx := blk_below HX.out hb2
  have HB2 := Lib.hid (below_then HB.out HB.out.size hb2)
  have HC32 := Lib.hid (Kd.C_below HC3.out hb2)
  have HC92 := Lib.hid (Kd.C_below HC9.out hb2)
  have p0 := blk_cell hr 0
  have q0 := blk_cell hx 0
  simp at p0 q0
  have p1 := blk_cell hr 1
  have q1 := blk_cell hx 1
  simp at p1 q1
  have p2 := blk_cell hr 2
  have q2 := blk_cell hx 2
  simp at p2 q2
  have p3 := blk_cell hr 3
  have q3 := blk_cell hx 3
  simp at p3 q3
  have p4 := blk_cell hr 4
  have q4 := blk_cell hx 4
  simp at p4 q4
  have p5 := blk_cell hr 5
  have q5 := blk_cell hx 5
  simp at p5 q5
  have p6 := blk_cell hr 6
  have q6 := blk_cell hx 6
  simp at p6 q6
  have p7 := blk_cell hr 7
  have q7 := blk_cell hx 7
  simp at p7 q7
  have p8 := blk_cell hr 8
  have q8 := blk_cell hx 8
  simp at p8 q8
  have p9 := blk_cell hr 9
  have q9 := blk_cell hx 9
  simp at p9 q9
  clear HB HC3 HC9 HR HX hb2 hr hx
  have HB := HB2
  have HC3 := HC32
  have HC9 := HC92
  clear HB2 HC32 HC92
  go_wp2_with fail
  refine (tollbarref19_SameReply.calls k 0 0 at_ A3 c3 vs 3 0 0 0 0 none 0 [] fr to_ at_ A3 c3 vs 3 code id rate value A9 c9 ps sb _ HC3.out hc3 (Kd.C_nil _ _) (Nat.le_refl _) HC3.out hc3 HC9.out hc9 hs).mono ?_
  rintro e w5 ⟨rfl, hb5⟩
  have HB5 := Lib.hid (below_then HB.out HB.out.size hb5)
  clear hb5
  go_wp2_with fail
  go_ret
  exact ⟨rfl, HB5.out⟩
set_option maxHeartbeats 4000000 in
set_option maxRecDepth 100000 in
theorem rm5_no (k : Nat) (fr to_ at_ : Int) (A3 : Option Addr) (c3 : Nat) (vs : List Int) (code id rate value : Int) (A9 : Option Addr) (c9 : Nat) (ps : List S76) (w : World) (hr3 : Kd.C (Kd.int .i64) w A3 vs.length vs) (hc3 : vs.length ≤ c3) (hr9 : Kd.C k76 w A9 ps.length ps) (hc9 : ps.length ≤ c9) (h1 : (decide (0 ≤ value) && decide (value ≤ 4611686018427387904)) = false) :
    Calls Try.prog 28 #[.agg #[.int .i64 fr, .int .i64 to_, .int .i64 at_, .slice A3 vs.length c3, .int .i64 5, .int .i64 code, .int .i64 id, .int .i64 rate, .int .i64 value, .slice A9 ps.length c9]] w fun e w' => e = .returned (.bool false) ∧ Below w.heap.size w w' := by
  have HQ := Lib.hid (refRate_is value)
  rw [h1] at HQ
  clear h1
  have HB := Lib.hid (((Below.refl w.heap.size w).alloc (Nat.le_refl _) (.cells #[.int .i64 fr, .int .i64 to_, .int .i64 at_, .slice A3 vs.length c3, .int .i64 5, .int .i64 code, .int .i64 id, .int .i64 rate, .int .i64 value, .slice A9 ps.length c9] 48 (0, 0))).alloc (by simp) (.cells #[.int .i64 0, .int .i64 0, .int .i64 0, .slice none 0 0, .int .i64 5, .int .i64 0, .int .i64 0, .int .i64 0, .int .i64 value, .slice none 0 0] 48 (0, 0)))
  have HC3 := Lib.hid (Kd.C_alloc (Kd.C_alloc hr3 (.cells #[.int .i64 fr, .int .i64 to_, .int .i64 at_, .slice A3 vs.length c3, .int .i64 5, .int .i64 code, .int .i64 id, .int .i64 rate, .int .i64 value, .slice A9 ps.length c9] 48 (0, 0))) (.cells #[.int .i64 0, .int .i64 0, .int .i64 0, .slice none 0 0, .int .i64 5, .int .i64 0, .int .i64 0, .int .i64 0, .int .i64 value, .slice none 0 0] 48 (0, 0)))
  have HC9 := Lib.hid (Kd.C_alloc (Kd.C_alloc hr9 (.cells #[.int .i64 fr, .int .i64 to_, .int .i64 at_, .slice A3 vs.length c3, .int .i64 5, .int .i64 code, .int .i64 id, .int .i64 rate, .int .i64 value, .slice A9 ps.length c9] 48 (0, 0))) (.cells #[.int .i64 0, .int .i64 0, .int .i64 0, .slice none 0 0, .int .i64 5, .int .i64 0, .int .i64 0, .int .i64 0, .int .i64 value, .slice none 0 0] 48 (0, 0)))
  have HR := Lib.hid (blk_alloc (blk_new w (.cells #[.int .i64 fr, .int .i64 to_, .int .i64 at_, .slice A3 vs.length c3, .int .i64 5, .int .i64 code, .int .i64 id, .int .i64 rate, .int .i64 value, .slice A9 ps.length c9] 48 (0, 0))) (.cells #[.int .i64 0, .int .i64 0, .int .i64 0, .slice none 0 0, .int .i64 5, .int .i64 0, .int .i64 0, .int .i64 0, .int .i64 value, .slice none 0 0] 48 (0, 0)))
  have HX := Lib.hid (blk_new (w.alloc (.cells #[.int .i64 fr, .int .i64 to_, .int .i64 at_, .slice A3 vs.length c3, .int .i64 5, .int .i64 code, .int .i64 id, .int .i64 rate, .int .i64 value, .slice A9 ps.length c9] 48 (0, 0))) (.cells #[.int .i64 0, .int .i64 0, .int .i64 0, .slice none 0 0, .int .i64 5, .int .i64 0, .int .i64 0, .int .i64 0, .int .i64 value, .slice none 0 0] 48 (0, 0)))
  have HS : Hid ((w.alloc (.cells #[.int .i64 fr, .int .i64 to_, .int .i64 at_, .slice A3 vs.length c3, .int .i64 5, .int .i64 code, .int .i64 id, .int .i64 rate, .int .i64 value, .slice A9 ps.length c9] 48 (0, 0))).heap.size = w.heap.size + 1) := Lib.hid (by simp)
  rw [HS.out] at HX
  clear hr3 hr9
  go_enter Try.func28, Try.ntmps28
  go_wp2_with fail
  refine (HQ.out _).mono ?_
  rintro e w2 ⟨rfl, rfl⟩
  go_wp2_with fail
  go_ret
  exact ⟨rfl, HB.out⟩
set_option maxHeartbeats 4000000 in
set_option maxRecDepth 100000 in
theorem rm5 (k : Nat) (fr to_ at_ : Int) (A3 : Option Addr) (c3 : Nat) (vs : List Int) (code id rate value : Int) (A9 : Option Addr) (c9 : Nat) (ps : List S76) (w : World) (hr3 : Kd.C (Kd.int .i64) w A3 vs.length vs) (hc3 : vs.length ≤ c3) (hr9 : Kd.C k76 w A9 ps.length ps) (hc9 : ps.length ≤ c9) (h1 : (decide (0 ≤ value) && decide (value ≤ 4611686018427387904)) = true) (sb : Bool) (hs : tollbarref19_SameReply.f k 0 0 0 ([] : List Int) 5 0 0 0 value ([] : List S76) fr to_ at_ vs 5 code id rate value ps = some sb) :
    Calls Try.prog 28 #[.agg #[.int .i64 fr, .int .i64 to_, .int .i64 at_, .slice A3 vs.length c3, .int .i64 5, .int .i64 code, .int .i64 id, .int .i64 rate, .int .i64 value, .slice A9 ps.length c9]] w fun e w' => e = .returned (.bool sb) ∧ Below w.heap.size w w' := by
  have HQ := Lib.hid (refRate_is value)
  rw [h1] at HQ
  clear h1
  have HB := Lib.hid (((Below.refl w.heap.size w).alloc (Nat.le_refl _) (.cells #[.int .i64 fr, .int .i64 to_, .int .i64 at_, .slice A3 vs.length c3, .int .i64 5, .int .i64 code, .int .i64 id, .int .i64 rate, .int .i64 value, .slice A9 ps.length c9] 48 (0, 0))).alloc (by simp) (.cells #[.int .i64 0, .int .i64 0, .int .i64 0, .slice none 0 0, .int .i64 5, .int .i64 0, .int .i64 0, .int .i64 0, .int .i64 value, .slice none 0 0] 48 (0, 0)))
  have HC3 := Lib.hid (Kd.C_alloc (Kd.C_alloc hr3 (.cells #[.int .i64 fr, .int .i64 to_, .int .i64 at_, .slice A3 vs.length c3, .int .i64 5, .int .i64 code, .int .i64 id, .int .i64 rate, .int .i64 value, .slice A9 ps.length c9] 48 (0, 0))) (.cells #[.int .i64 0, .int .i64 0, .int .i64 0, .slice none 0 0, .int .i64 5, .int .i64 0, .int .i64 0, .int .i64 0, .int .i64 value, .slice none 0 0] 48 (0, 0)))
  have HC9 := Lib.hid (Kd.C_alloc (Kd.C_alloc hr9 (.cells #[.int .i64 fr, .int .i64 to_, .int .i64 at_, .slice A3 vs.length c3, .int .i64 5, .int .i64 code, .int .i64 id, .int .i64 rate, .int .i64 value, .slice A9 ps.length c9] 48 (0, 0))) (.cells #[.int .i64 0, .int .i64 0, .int .i64 0, .slice none 0 0, .int .i64 5, .int .i64 0, .int .i64 0, .int .i64 0, .int .i64 value, .slice none 0 0] 48 (0, 0)))
  have HR := Lib.hid (blk_alloc (blk_new w (.cells #[.int .i64 fr, .int .i64 to_, .int .i64 at_, .slice A3 vs.length c3, .int .i64 5, .int .i64 code, .int .i64 id, .int .i64 rate, .int .i64 value, .slice A9 ps.length c9] 48 (0, 0))) (.cells #[.int .i64 0, .int .i64 0, .int .i64 0, .slice none 0 0, .int .i64 5, .int .i64 0, .int .i64 0, .int .i64 0, .int .i64 value, .slice none 0 0] 48 (0, 0)))
  have HX := Lib.hid (blk_new (w.alloc (.cells #[.int .i64 fr, .int .i64 to_, .int .i64 at_, .slice A3 vs.length c3, .int .i64 5, .int .i64 code, .int .i64 id, .int .i64 rate, .int .i64 value, .slice A9 ps.length c9] 48 (0, 0))) (.cells #[.int .i64 0, .int .i64 0, .int .i64 0, .slice none 0 0, .int .i64 5, .int .i64 0, .int .i64 0, .int .i64 0, .int .i64 value, .slice none 0 0] 48 (0, 0)))
  have HS : Hid ((w.alloc (.cells #[.int .i64 fr, .int .i64 to_, .int .i64 at_, .slice A3 vs.length c3, .int .i64 5, .int .i64 code, .int .i64 id, .int .i64 rate, .int .i64 value, .slice A9 ps.length c9] 48 (0, 0))).heap.size = w.heap.size + 1) := Lib.hid (by simp)
  rw [HS.out] at HX
  clear hr3 hr9
  go_enter Try.func28, Try.ntmps28
  go_wp2_with fail
  refine (HQ.out _).mono ?_
  rintro e w2 ⟨rfl, rfl⟩
  go_wp2_with fail
  refine (tollbarref19_SameReply.calls k 0 0 0 none 0 [] 5 0 0 0 value none 0 [] fr to_ at_ A3 c3 vs 5 code id rate value A9 c9 ps sb _ (Kd.C_nil _ _) (Nat.le_refl _) (Kd.C_nil _ _) (Nat.le_refl _) HC3.out hc3 HC9.out hc9 hs).mono ?_
  rintro e w5 ⟨rfl, hb5⟩
  have HB5 := Lib.hid (below_then HB.out HB.out.size hb5)
  clear hb5
  go_wp2_with fail
  go_ret
  exact ⟨rfl, HB5.out⟩
set_option maxHeartbeats 4000000 in
set_option maxRecDepth 100000 in
theorem rm0 (k : Nat) (fr to_ at_ : Int) (A3 : Option Addr) (c3 : Nat) (vs : List Int) (kind code id rate value : Int) (A9 : Option Addr) (c9 : Nat) (ps : List S76) (w : World) (hr3 : Kd.C (Kd.int .i64) w A3 vs.length vs) (hc3 : vs.length ≤ c3) (hr9 : Kd.C k76 w A9 ps.length ps) (hc9 : ps.length ≤ c9) (k1 : (kind == 1) = false) (k2 : (kind == 2) = false) (k3 : (kind == 3) = false) (k4 : (kind == 4) = false) (k5 : (kind == 5) = false) :
    Calls Try.prog 28 #[.agg #[.int .i64 fr, .int .i64 to_, .int .i64 at_, .slice A3 vs.length c3, .int .i64 kind, .int .i64 code, .int .i64 id, .int .i64 rate, .int .i64 value, .slice A9 ps.length c9]] w fun e w' => e = .returned (.bool false) ∧ Below w.heap.size w w' := by
  have HB := Lib.hid (((Below.refl w.heap.size w).alloc (Nat.le_refl _) (.cells #[.int .i64 fr, .int .i64 to_, .int .i64 at_, .slice A3 vs.length c3, .int .i64 kind, .int .i64 code, .int .i64 id, .int .i64 rate, .int .i64 value, .slice A9 ps.length c9] 48 (0, 0))).alloc (by simp) (.cells #[.int .i64 0, .int .i64 0, .int .i64 0, .slice none 0 0, .int .i64 kind, .int .i64 0, .int .i64 0, .int .i64 0, .int .i64 0, .slice none 0 0] 48 (0, 0)))
  clear hr3 hr9
  go_enter Try.func28, Try.ntmps28
  go_wp2_with fail
  go_ret
  exact ⟨rfl, HB.out⟩
theorem tollbarref22_ReplyMay.calls (k : Nat) (fr to_ at_ : Int) (A3 : Option Addr) (c3 : Nat) (vs : List Int) (kind code id rate value : Int) (A9 : Option Addr) (c9 : Nat) (ps : List S76) (r : Bool) (w : World) (hr3 : Kd.C (Kd.int .i64) w A3 vs.length vs) (hc3 : vs.length ≤ c3) (hr9 : Kd.C k76 w A9 ps.length ps) (hc9 : ps.length ≤ c9) (h : tollbarref22_ReplyMay.f k fr to_ at_ vs kind code id rate value ps = some r) :
    Calls Try.prog 28 #[.agg #[.int .i64 fr, .int .i64 to_, .int .i64 at_, .slice A3 vs.length c3, .int .i64 kind, .int .i64 code, .int .i64 id, .int .i64 rate, .int .i64 value, .slice A9 ps.length c9]] w fun e w' => e = .returned (.bool r) ∧ Below w.heap.size w w' := by
  unfold tollbarref22_ReplyMay.f at h
  by_cases k1 : kind = 1
  · subst k1
    rw [if_pos rfl] at h
    by_cases hh : 1 ≤ code ∧ code ≤ 9
    · rw [if_pos hh] at h
      exact rm1 k fr to_ at_ A3 c3 vs code id rate value A9 c9 ps w hr3 hc3 hr9 hc9 hh.1 hh.2 r h
    · rw [if_neg hh] at h
      obtain rfl := Option.some.inj h
      exact rm1_no k fr to_ at_ A3 c3 vs code id rate value A9 c9 ps w hr3 hc3 hr9 hc9 hh
  rw [if_neg k1] at h
  by_cases k2 : kind = 2
  · subst k2
    rw [if_pos rfl] at h
    cases hg : tollbarref22_grantMay.f k fr to_ at_ vs 2 code id rate value ps with
    | none => rw [hg] at h; cases h
    | some b =>
      rw [hg, Option.bind_some] at h
      cases b with
      | true => exact rm2 k fr to_ at_ A3 c3 vs code id rate value A9 c9 ps w hr3 hc3 hr9 hc9 hg r h
      | false =>
        obtain rfl := Option.some.inj h
        exact rm2_no k fr to_ at_ A3 c3 vs code id rate value A9 c9 ps w hr3 hc3 hr9 hc9 hg
  rw [if_neg k2] at h
  by_cases k3 : kind = 3
  · subst k3
    rw [if_pos rfl] at h
    cases hg : tollbarref22_cutMay.f k at_ vs with
    | none => rw [hg] at h; cases h
    | some b =>
      rw [hg, Option.bind_some] at h
      cases b with
      | true => exact rm3 k fr to_ at_ A3 c3 vs code id rate value A9 c9 ps w hr3 hc3 hr9 hc9 hg r h
      | false =>
        obtain rfl := Option.some.inj h
        exact rm3_no k fr to_ at_ A3 c3 vs code id rate value A9 c9 ps w hr3 hc3 hr9 hc9 hg
  rw [if_neg k3] at h
  by_cases k4 : kind = 4
  · subst k4
    rw [if_pos rfl] at h
    exact rm4 k fr to_ at_ A3 c3 vs code id rate value A9 c9 ps w hr3 hc3 hr9 hc9 r h
  rw [if_neg k4] at h
  by_cases k5 : kind = 5
  · subst k5
    rw [if_pos rfl] at h
    by_cases hh : 0 ≤ value ∧ value ≤ 4611686018427387904
    · rw [if_pos hh] at h
      exact rm5 k fr to_ at_ A3 c3 vs code id rate value A9 c9 ps w hr3 hc3 hr9 hc9 (by simp [hh]) r h
    · rw [if_neg hh] at h
      obtain rfl := Option.some.inj h
      exact rm5_no k fr to_ at_ A3 c3 vs code id rate value A9 c9 ps w hr3 hc3 hr9 hc9 (by simpa using hh)
  rw [if_neg k5] at h
  obtain rfl := Option.some.inj h
  exact rm0 k fr to_ at_ A3 c3 vs kind code id rate value A9 c9 ps w hr3 hc3 hr9 hc9 (by simpa using k1) (by simpa using k2) (by simpa using k3) (by simpa using k4) (by simpa using k5)
end Go.Proofs.Yteikgpdjfhdneaa.Man
