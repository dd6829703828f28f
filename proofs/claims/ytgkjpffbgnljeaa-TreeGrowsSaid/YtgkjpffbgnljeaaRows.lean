/-
  No cell of these rows narrows 'for every input' (looked for: loops, veiled, ifaces, maps, wideKeys, modest, calm, conditions, laid).
  DERIVED. THE GIVEN ROWS OF THIS SEAT. 8 by the template 'for every input the law returns true; each argument reads behind the call as it read before'; 0 by the template 'total and deterministic' (their statements: YtgkjpffbgnljeaaTotals.lean).
  GIVEN WITH THE SEED: the statements are not yours to turn. If you find one false, say at which input.
  Laid BY PROGRAM, IN A SANDBOX (cutbox-rows.mjs): the forced cells as the released guide's own fill.sh prints them over the translation 1fecacc07f2562f3… (all of the seat's roots in one cut). By AI agents, Wed Nov 11 2026. No macro, syntax, notation, axiom, sorry.
-/
import Derived.Test.YtgkjpffbgnljeaaChecked
import GoSem.Claim
import GoSem.ClaimJoined
import GoSem.ClaimMapViews
import Derived.JoinedTies
import Derived.KernelRfl
namespace Go.Proofs.Ytgkjpffbgnljeaa
/- THE CELL 'sum', in the pinned program and in every row, IS THE sha256 OF THE DUMP (.gsa) THAT YtgkjpffbgnljeaaProg.lean LOADS. Nothing in Lean hashes anything: it is a label: what it is worth is what the hold of that sum in a sandbox is worth. -/
noncomputable def Try.pinned : Pinned := { name := "ytgkjpffbgnljeaa", sum := "1fecacc07f2562f3fb33fe8fcd5e243110d54cbb5acdd06d1662913830e57182", checked := Try.checked }
namespace Rows
def none {H : Type} : Left H := { results := [], args := [] }

/-- 'tollbarlaw17.Trees': WHATEVER THE INPUT: true; the input reads as it did. -/
def treesSpec : ChangeSpec := { name := "trees", fn := fun _ => fun
  | [d1, d2] => { results := [.lit (.bool true)], args := [d1, d2] }
  | _ => none }
def treesRow : OpenClaim := { program := "ytgkjpffbgnljeaa", sum := "1fecacc07f2562f3fb33fe8fcd5e243110d54cbb5acdd06d1662913830e57182", func := "tollbar/tollbarlaw17.Trees", spec := "trees", recurses := true, apart := false }
def TreesSaid : Prop := treesRow.holds Try.pinned (OpenSpec.ofChange treesSpec)

/-- ITS FALSE NEIGHBOUR: 'it returns false'. Refute it at one input. -/
def treesWrong : ChangeSpec := { name := "trees", fn := fun _ => fun
  | [d1, d2] => { results := [.lit (.bool false)], args := [d1, d2] }
  | _ => none }
def TreesWrongFalsely : Prop := treesRow.holds Try.pinned (OpenSpec.ofChange treesWrong)

/-- 'tollbarlaw17.TreeInserts': WHATEVER THE INPUT: true; the input reads as it did. -/
def treeInsertsSpec : ChangeSpec := { name := "treeInserts", fn := fun _ => fun
  | [d1, d2] => { results := [.lit (.bool true)], args := [d1, d2] }
  | _ => none }
def treeInsertsRow : OpenClaim := { program := "ytgkjpffbgnljeaa", sum := "1fecacc07f2562f3fb33fe8fcd5e243110d54cbb5acdd06d1662913830e57182", func := "tollbar/tollbarlaw17.TreeInserts", spec := "treeInserts", recurses := true, apart := false }
def TreeInsertsSaid : Prop := treeInsertsRow.holds Try.pinned (OpenSpec.ofChange treeInsertsSpec)

/-- ITS FALSE NEIGHBOUR: 'it returns false'. Refute it at one input. -/
def treeInsertsWrong : ChangeSpec := { name := "treeInserts", fn := fun _ => fun
  | [d1, d2] => { results := [.lit (.bool false)], args := [d1, d2] }
  | _ => none }
def TreeInsertsWrongFalsely : Prop := treeInsertsRow.holds Try.pinned (OpenSpec.ofChange treeInsertsWrong)

/-- 'tollbarlaw17.TreeDeletes': WHATEVER THE INPUT: true; the input reads as it did. -/
def treeDeletesSpec : ChangeSpec := { name := "treeDeletes", fn := fun _ => fun
  | [d1, d2] => { results := [.lit (.bool true)], args := [d1, d2] }
  | _ => none }
def treeDeletesRow : OpenClaim := { program := "ytgkjpffbgnljeaa", sum := "1fecacc07f2562f3fb33fe8fcd5e243110d54cbb5acdd06d1662913830e57182", func := "tollbar/tollbarlaw17.TreeDeletes", spec := "treeDeletes", recurses := true, apart := false }
def TreeDeletesSaid : Prop := treeDeletesRow.holds Try.pinned (OpenSpec.ofChange treeDeletesSpec)

/-- ITS FALSE NEIGHBOUR: 'it returns false'. Refute it at one input. -/
def treeDeletesWrong : ChangeSpec := { name := "treeDeletes", fn := fun _ => fun
  | [d1, d2] => { results := [.lit (.bool false)], args := [d1, d2] }
  | _ => none }
def TreeDeletesWrongFalsely : Prop := treeDeletesRow.holds Try.pinned (OpenSpec.ofChange treeDeletesWrong)

/-- 'tollbarlaw17.TreeGrows': WHATEVER THE INPUT: true; the input reads as it did. -/
def treeGrowsSpec : ChangeSpec := { name := "treeGrows", fn := fun _ => fun
  | [d1, d2] => { results := [.lit (.bool true)], args := [d1, d2] }
  | _ => none }
def treeGrowsRow : OpenClaim := { program := "ytgkjpffbgnljeaa", sum := "1fecacc07f2562f3fb33fe8fcd5e243110d54cbb5acdd06d1662913830e57182", func := "tollbar/tollbarlaw17.TreeGrows", spec := "treeGrows", recurses := true, apart := false }
def TreeGrowsSaid : Prop := treeGrowsRow.holds Try.pinned (OpenSpec.ofChange treeGrowsSpec)

/-- ITS FALSE NEIGHBOUR: 'it returns false'. Refute it at one input. -/
def treeGrowsWrong : ChangeSpec := { name := "treeGrows", fn := fun _ => fun
  | [d1, d2] => { results := [.lit (.bool false)], args := [d1, d2] }
  | _ => none }
def TreeGrowsWrongFalsely : Prop := treeGrowsRow.holds Try.pinned (OpenSpec.ofChange treeGrowsWrong)

/-- 'tollbarlaw17.TreeOrders': WHATEVER THE INPUT: true; the input reads as it did. -/
def treeOrdersSpec : ChangeSpec := { name := "treeOrders", fn := fun _ => fun
  | [d1, d2, d3] => { results := [.lit (.bool true)], args := [d1, d2, d3] }
  | _ => none }
def treeOrdersRow : OpenClaim := { program := "ytgkjpffbgnljeaa", sum := "1fecacc07f2562f3fb33fe8fcd5e243110d54cbb5acdd06d1662913830e57182", func := "tollbar/tollbarlaw17.TreeOrders", spec := "treeOrders", recurses := true, apart := false }
def TreeOrdersSaid : Prop := treeOrdersRow.holds Try.pinned (OpenSpec.ofChange treeOrdersSpec)

/-- ITS FALSE NEIGHBOUR: 'it returns false'. Refute it at one input. -/
def treeOrdersWrong : ChangeSpec := { name := "treeOrders", fn := fun _ => fun
  | [d1, d2, d3] => { results := [.lit (.bool false)], args := [d1, d2, d3] }
  | _ => none }
def TreeOrdersWrongFalsely : Prop := treeOrdersRow.holds Try.pinned (OpenSpec.ofChange treeOrdersWrong)

/-- 'tollbarlaw17.TreeHigh': WHATEVER THE INPUT: true; the input reads as it did. -/
def treeHighSpec : ChangeSpec := { name := "treeHigh", fn := fun _ => fun
  | [d1, d2] => { results := [.lit (.bool true)], args := [d1, d2] }
  | _ => none }
def treeHighRow : OpenClaim := { program := "ytgkjpffbgnljeaa", sum := "1fecacc07f2562f3fb33fe8fcd5e243110d54cbb5acdd06d1662913830e57182", func := "tollbar/tollbarlaw17.TreeHigh", spec := "treeHigh", recurses := true, apart := false }
def TreeHighSaid : Prop := treeHighRow.holds Try.pinned (OpenSpec.ofChange treeHighSpec)

/-- ITS FALSE NEIGHBOUR: 'it returns false'. Refute it at one input. -/
def treeHighWrong : ChangeSpec := { name := "treeHigh", fn := fun _ => fun
  | [d1, d2] => { results := [.lit (.bool false)], args := [d1, d2] }
  | _ => none }
def TreeHighWrongFalsely : Prop := treeHighRow.holds Try.pinned (OpenSpec.ofChange treeHighWrong)

/-- 'tollbarlaw19.BookInstants': WHATEVER THE INPUT: true; the input reads as it did. -/
def bookInstantsSpec : ChangeSpec := { name := "bookInstants", fn := fun _ => fun
  | [d1, d2, d3, d4] => { results := [.lit (.bool true)], args := [d1, d2, d3, d4] }
  | _ => none }
def bookInstantsRow : OpenClaim := { program := "ytgkjpffbgnljeaa", sum := "1fecacc07f2562f3fb33fe8fcd5e243110d54cbb5acdd06d1662913830e57182", func := "tollbar/tollbarlaw19.BookInstants", spec := "bookInstants", unfollowed := true, recurses := true, apart := false }
def BookInstantsSaid : Prop := bookInstantsRow.holds Try.pinned (OpenSpec.ofChange bookInstantsSpec)

/-- ITS FALSE NEIGHBOUR: 'it returns false'. Refute it at one input. -/
def bookInstantsWrong : ChangeSpec := { name := "bookInstants", fn := fun _ => fun
  | [d1, d2, d3, d4] => { results := [.lit (.bool false)], args := [d1, d2, d3, d4] }
  | _ => none }
def BookInstantsWrongFalsely : Prop := bookInstantsRow.holds Try.pinned (OpenSpec.ofChange bookInstantsWrong)

/-- 'tollbarlaw19.BookHolds': WHATEVER THE INPUT: true; the input reads as it did. -/
def bookHoldsSpec : ChangeSpec := { name := "bookHolds", fn := fun _ => fun
  | [d1, d2, d3, d4] => { results := [.lit (.bool true)], args := [d1, d2, d3, d4] }
  | _ => none }
def bookHoldsRow : OpenClaim := { program := "ytgkjpffbgnljeaa", sum := "1fecacc07f2562f3fb33fe8fcd5e243110d54cbb5acdd06d1662913830e57182", func := "tollbar/tollbarlaw19.BookHolds", spec := "bookHolds", unfollowed := true, recurses := true, apart := false }
def BookHoldsSaid : Prop := bookHoldsRow.holds Try.pinned (OpenSpec.ofChange bookHoldsSpec)

/-- ITS FALSE NEIGHBOUR: 'it returns false'. Refute it at one input. -/
def bookHoldsWrong : ChangeSpec := { name := "bookHolds", fn := fun _ => fun
  | [d1, d2, d3, d4] => { results := [.lit (.bool false)], args := [d1, d2, d3, d4] }
  | _ => none }
def BookHoldsWrongFalsely : Prop := bookHoldsRow.holds Try.pinned (OpenSpec.ofChange bookHoldsWrong)

/- THE SECOND FORM. 'bulk': how many values and letters a reading holds, each counted each time it is reached (what is shared counts as often as it is met; a slice's spare places count too). A statement '..UptoSaid' is the law's where the arguments, and the package variables that the reading takes, are together of bulk at most 1048576: NARROWER than '..Said'. Prove '..Said' where nothing that the law and all that it calls make is longer than what came in: it says more and counts as full. Else prove '..UptoSaid'. A law counts once. -/
mutual
def uptoBulk {H : Type} : DataW H → Nat
  | .lit (.string bytes) => bytes.length + 1
  | .lit _ => 1
  | .nil => 1
  | .ptr d => uptoBulk d + 1
  | .slice elems spare => uptoBulkAll elems + uptoBulkAll spare + 1
  | .agg parts => uptoBulkAll parts + 1
  | .iface _ d => uptoBulk d + 1
  | .map entries => uptoBulkEntries entries + 1
  | .held _ => 1
def uptoBulkAll {H : Type} : List (DataW H) → Nat
  | [] => 0
  | d :: r => uptoBulk d + uptoBulkAll r
def uptoBulkEntries {H : Type} : List (Lit × DataW H) → Nat
  | [] => 0
  | x :: r => uptoBulkEntry x + uptoBulkEntries r
def uptoBulkEntry {H : Type} : Lit × DataW H → Nat
  | (.string bytes, d) => bytes.length + uptoBulk d + 1
  | (_, d) => uptoBulk d + 1
 end
def uptoSmall : (H : Type) → List (DataW H) → Bool := fun _ ds => decide (uptoBulkAll ds ≤ 1048576)
def OpenSpec.upto (s : _root_.Go.ChangeSpec) : _root_.Go.OpenSpec := { _root_.Go.OpenSpec.ofChange s with cond := some uptoSmall }

/-- 'tollbarlaw17.Trees', WHERE WHAT IT READS IS OF BULK AT MOST 1048576: true; the input reads as it did. -/
def treesUptoRow : OpenClaim := { program := "ytgkjpffbgnljeaa", sum := "1fecacc07f2562f3fb33fe8fcd5e243110d54cbb5acdd06d1662913830e57182", func := "tollbar/tollbarlaw17.Trees", spec := "trees", recurses := true, apart := false, narrowed := true }
def TreesUptoSaid : Prop := treesUptoRow.holds Try.pinned (OpenSpec.upto treesSpec)

/-- 'tollbarlaw17.TreeInserts', WHERE WHAT IT READS IS OF BULK AT MOST 1048576: true; the input reads as it did. -/
def treeInsertsUptoRow : OpenClaim := { program := "ytgkjpffbgnljeaa", sum := "1fecacc07f2562f3fb33fe8fcd5e243110d54cbb5acdd06d1662913830e57182", func := "tollbar/tollbarlaw17.TreeInserts", spec := "treeInserts", recurses := true, apart := false, narrowed := true }
def TreeInsertsUptoSaid : Prop := treeInsertsUptoRow.holds Try.pinned (OpenSpec.upto treeInsertsSpec)

/-- 'tollbarlaw17.TreeDeletes', WHERE WHAT IT READS IS OF BULK AT MOST 1048576: true; the input reads as it did. -/
def treeDeletesUptoRow : OpenClaim := { program := "ytgkjpffbgnljeaa", sum := "1fecacc07f2562f3fb33fe8fcd5e243110d54cbb5acdd06d1662913830e57182", func := "tollbar/tollbarlaw17.TreeDeletes", spec := "treeDeletes", recurses := true, apart := false, narrowed := true }
def TreeDeletesUptoSaid : Prop := treeDeletesUptoRow.holds Try.pinned (OpenSpec.upto treeDeletesSpec)

/-- 'tollbarlaw17.TreeGrows', WHERE WHAT IT READS IS OF BULK AT MOST 1048576: true; the input reads as it did. -/
def treeGrowsUptoRow : OpenClaim := { program := "ytgkjpffbgnljeaa", sum := "1fecacc07f2562f3fb33fe8fcd5e243110d54cbb5acdd06d1662913830e57182", func := "tollbar/tollbarlaw17.TreeGrows", spec := "treeGrows", recurses := true, apart := false, narrowed := true }
def TreeGrowsUptoSaid : Prop := treeGrowsUptoRow.holds Try.pinned (OpenSpec.upto treeGrowsSpec)

/-- 'tollbarlaw17.TreeOrders', WHERE WHAT IT READS IS OF BULK AT MOST 1048576: true; the input reads as it did. -/
def treeOrdersUptoRow : OpenClaim := { program := "ytgkjpffbgnljeaa", sum := "1fecacc07f2562f3fb33fe8fcd5e243110d54cbb5acdd06d1662913830e57182", func := "tollbar/tollbarlaw17.TreeOrders", spec := "treeOrders", recurses := true, apart := false, narrowed := true }
def TreeOrdersUptoSaid : Prop := treeOrdersUptoRow.holds Try.pinned (OpenSpec.upto treeOrdersSpec)

/-- 'tollbarlaw17.TreeHigh', WHERE WHAT IT READS IS OF BULK AT MOST 1048576: true; the input reads as it did. -/
def treeHighUptoRow : OpenClaim := { program := "ytgkjpffbgnljeaa", sum := "1fecacc07f2562f3fb33fe8fcd5e243110d54cbb5acdd06d1662913830e57182", func := "tollbar/tollbarlaw17.TreeHigh", spec := "treeHigh", recurses := true, apart := false, narrowed := true }
def TreeHighUptoSaid : Prop := treeHighUptoRow.holds Try.pinned (OpenSpec.upto treeHighSpec)

/-- 'tollbarlaw19.BookInstants', WHERE WHAT IT READS IS OF BULK AT MOST 1048576: true; the input reads as it did. -/
def bookInstantsUptoRow : OpenClaim := { program := "ytgkjpffbgnljeaa", sum := "1fecacc07f2562f3fb33fe8fcd5e243110d54cbb5acdd06d1662913830e57182", func := "tollbar/tollbarlaw19.BookInstants", spec := "bookInstants", unfollowed := true, recurses := true, apart := false, narrowed := true }
def BookInstantsUptoSaid : Prop := bookInstantsUptoRow.holds Try.pinned (OpenSpec.upto bookInstantsSpec)

/-- 'tollbarlaw19.BookHolds', WHERE WHAT IT READS IS OF BULK AT MOST 1048576: true; the input reads as it did. -/
def bookHoldsUptoRow : OpenClaim := { program := "ytgkjpffbgnljeaa", sum := "1fecacc07f2562f3fb33fe8fcd5e243110d54cbb5acdd06d1662913830e57182", func := "tollbar/tollbarlaw19.BookHolds", spec := "bookHolds", unfollowed := true, recurses := true, apart := false, narrowed := true }
def BookHoldsUptoSaid : Prop := bookHoldsUptoRow.holds Try.pinned (OpenSpec.upto bookHoldsSpec)

end Rows
end Go.Proofs.Ytgkjpffbgnljeaa
