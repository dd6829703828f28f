/- A request as a structure of Lean, and its cells. -/
import Derived.Test.YtikblicmnfnomaaWMore
set_option linter.unusedVariables false
namespace Go.Proofs.Ytikblicmnfnomaa.Man
open Go.RowKit Go.Proofs.YtikblicmnfnomaaW.PrintWords Go.Proofs.YtikblicmnfnomaaW.PrintLast Go.Proofs.YtikblicmnfnomaaW.PrintMore
structure S44 where
  f0 : Int
  f1 : Int
def k44 : Kd S44 := Kd.iso (Kd.pair (Kd.int .i64) (Kd.int .i64)) (fun x : S44 => (x.f0, x.f1))
theorem k44_open {w : World} {x : S44} {cs : List Value} (h : k44.K w x cs) : cs = [.int .i64 x.f0, .int .i64 x.f1] := by
  obtain ⟨_, _, rfl, rfl, rfl⟩ := h
  exact rfl
structure S46 where
  f0 : S44
  f1 : Int
  f2 : Int
  f3 : Int
  f4 : Int
  f5 : Int
def k46 : Kd S46 := Kd.iso (Kd.pair k44 (Kd.pair (Kd.int .i64) (Kd.pair (Kd.int .i64) (Kd.pair (Kd.int .i64) (Kd.pair (Kd.int .i64) (Kd.int .i64)))))) (fun x : S46 => (x.f0, x.f1, x.f2, x.f3, x.f4, x.f5))
theorem k46_open {w : World} {x : S46} {cs : List Value} (h : k46.K w x cs) : cs = [.int .i64 x.f0.f0, .int .i64 x.f0.f1, .int .i64 x.f1, .int .i64 x.f2, .int .i64 x.f3, .int .i64 x.f4, .int .i64 x.f5] := by
  obtain ⟨_, _, rfl, h0, ⟨_, _, rfl, rfl, ⟨_, _, rfl, rfl, ⟨_, _, rfl, rfl, ⟨_, _, rfl, rfl, rfl⟩⟩⟩⟩⟩ := h
  obtain rfl := k44_open h0
  exact rfl
end Go.Proofs.Ytikblicmnfnomaa.Man
