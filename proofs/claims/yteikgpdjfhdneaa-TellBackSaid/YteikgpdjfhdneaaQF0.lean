-- written by this session's program mprint.py: functions of the Go program, and their contracts
import Derived.Test.YteikgpdjfhdneaaProg
import Derived.Test.YteikgpdjfhdneaaQT0
import Derived.Test.YteikgpdjfhdneaaQT1
import Derived.Below
import Derived.Deep.Draws
import Derived.Deep.AppendLies
import Derived.Maps.AppendAt
import Derived.OwnWalk
import Derived.Laws.BytesArg
import Derived.Laws.MakeOwn
import Derived.Laws.OwnMore
import Derived.Deep.OwnRows
import Derived.Tactics
import Derived.Lib.ConvBytes
import Derived.Laws.Slices
import Derived.WalkKit
import Derived.KernelRfl
import Derived.RowKit3
import Derived.Deep.LoopGhost
import Derived.Deep.QuietTactic
import Derived.BigQuiet
import Derived.WideLaws
import Derived.Deep.DeepCutAuto
import Derived.Deep.CutBlock
import Derived.Deep.RegionHeld3
import Derived.Laws.Rows
import Derived.Lib.AppendStr
import Derived.ArgAppend
import Derived.Laws.IdiomCopy
import Derived.OrdersHeld
import Derived.Laws.BitsLemmas
import Derived.RowKit
import Derived.Test.YteikgpdjfhdneaaTellT
import Derived.Test.YteikgpdjfhdneaaWWords
import Derived.Test.YteikgpdjfhdneaaWLast
import Derived.Test.YteikgpdjfhdneaaWTab
import Derived.Test.YteikgpdjfhdneaaWFour
import Derived.Test.YteikgpdjfhdneaaWQPut
import Derived.Test.YteikgpdjfhdneaaWApart
import Derived.Test.YteikgpdjfhdneaaWArr
import Derived.Test.YteikgpdjfhdneaaWZeros
import Derived.Test.YteikgpdjfhdneaaWFoot
import Derived.Test.YteikgpdjfhdneaaWKept
import Derived.Test.YteikgpdjfhdneaaWShare
import Derived.Test.YteikgpdjfhdneaaWN
import Derived.Test.YteikgpdjfhdneaaWFootNe
import Derived.Test.YteikgpdjfhdneaaWAt
import Derived.Test.YteikgpdjfhdneaaWEqStruct
import Derived.Test.YteikgpdjfhdneaaWRepsOne
import Derived.Test.YteikgpdjfhdneaaWInv
import Derived.Test.YteikgpdjfhdneaaWInvWords
import Derived.Test.YteikgpdjfhdneaaWGuard
import Derived.Test.YteikgpdjfhdneaaWNEv
import Derived.Test.YteikgpdjfhdneaaWMore
namespace Go.Proofs.Yteikgpdjfhdneaa.QF
open Go.RowKit Go.Proofs.Yteikgpdjfhdneaa.QT Go.Proofs.Yteikgpdjfhdneaa.Man Go.Proofs.Yteikgpdjfhdneaa.QG Go.Proofs.Yteikgpdjfhdneaa.QH Go.Proofs.YteikgpdjfhdneaaW.PrintWords Go.Proofs.YteikgpdjfhdneaaW.PrintLast Go.Proofs.YteikgpdjfhdneaaW.PrintMore
attribute [local go_sem] max2_int min2_int max_two min_two max_three min_three max_four min_four   -- for this text's walks alone
set_option linter.unusedVariables false
set_option linter.unusedSimpArgs false



-- the values' own types
/-! #### struct type 42 -/
def rd_L2 (xs : List (List Int)) (i : Int) : (List Int) := xs.getD i.toNat ([] : List Int)
theorem at_L2 {w : World} {A : Option Addr} {n : Nat} {xs : List (List Int)} (h : Kd.C (Kd.slice 3 (Kd.int .i64)) w A n xs) (i : Int) (h0 : 0 ≤ i) (h1 : i < n) : ∃ ad A0 c0, A = some ad ∧ w.cell? (ad.add i.toNat) = some (.slice A0 (rd_L2 xs i).length c0) ∧ (rd_L2 xs i).length ≤ c0 ∧ (Kd.int .i64).C w A0 (rd_L2 xs i).length (rd_L2 xs i) := by
  obtain ⟨ad, c, e, _, hK, hc0⟩ := Kd.C_get h ([] : List Int) i h0 h1
  have hc : ∀ j u, c[j]? = some u → w.cell? (ad.add (i.toNat * 1 + j)) = some u := hc0
  obtain ⟨A0, c0, rfl, l0, g0⟩ := hK
  exact ⟨ad, A0, c0, e, by have hq := hc 0 _ rfl; rwa [Nat.mul_one, Nat.add_zero] at hq, l0, g0⟩

/-! #### struct type 78 -/
def rd_L4 (xs : List (List S78)) (i : Int) : (List S78) := xs.getD i.toNat ([] : List S78)
theorem at_L4 {w : World} {A : Option Addr} {n : Nat} {xs : List (List S78)} (h : Kd.C (Kd.slice 78 k78) w A n xs) (i : Int) (h0 : 0 ≤ i) (h1 : i < n) : ∃ ad A0 c0, A = some ad ∧ w.cell? (ad.add i.toNat) = some (.slice A0 (rd_L4 xs i).length c0) ∧ (rd_L4 xs i).length ≤ c0 ∧ k78.C w A0 (rd_L4 xs i).length (rd_L4 xs i) := by
  obtain ⟨ad, c, e, _, hK, hc0⟩ := Kd.C_get h ([] : List S78) i h0 h1
  have hc : ∀ j u, c[j]? = some u → w.cell? (ad.add (i.toNat * 1 + j)) = some u := hc0
  obtain ⟨A0, c0, rfl, l0, g0⟩ := hK
  exact ⟨ad, A0, c0, e, by have hq := hc 0 _ rfl; rwa [Nat.mul_one, Nat.add_zero] at hq, l0, g0⟩

/-! #### struct type 76 -/
end Go.Proofs.Yteikgpdjfhdneaa.QF
