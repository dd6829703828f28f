/- The plain law AskReads. -/
import Derived.Test.YtikblicmnfnomaaQC
import Derived.Test.YtikblicmnfnomaaAskL
set_option linter.unusedVariables false
namespace Go.Proofs.Ytikblicmnfnomaa.Pure
open Go.RowKit Go.Proofs.Ytikblicmnfnomaa.Man Go.Proofs.Ytikblicmnfnomaa.QC Go.Proofs.Ytikblicmnfnomaa.AskL Go.Proofs.YtikblicmnfnomaaW.PrintWords

theorem awakeC : tollbarlaw22_awake.f = some true := by decide +kernel
theorem numC (x : Int) : tollbarlaw0_Num.f x = some x := rfl
theorem AskReads (x0 : ByteArray) (h0 : x0.size ≤ 140737488351232) (hb : x0.size + 1 ≤ 1048576) : tollbarlaw22_AskReads.f x0 = some true := by
  obtain ⟨a, b, k, i, s, d, r, e, hr, _⟩ := read_ok x0 (by omega)
  unfold tollbarlaw22_AskReads.f tollbarref22_ReadAsk.f
  simp only [hr, Option.bind_some, awakeC, if_true, numC, BEq.rfl, Bool.and_self]
end Go.Proofs.Ytikblicmnfnomaa.Pure
