/-
  No cell of these rows narrows 'for every input' (looked for: loops, veiled, ifaces, maps, wideKeys, modest, calm, conditions, laid).
  DERIVED. THE GIVEN ROWS OF THIS SEAT. 10 by the template 'for every input the law returns true; each argument reads behind the call as it read before'; 0 by the template 'total and deterministic' (their statements: YtbacdpagpdmkoaaTotals.lean).
  GIVEN WITH THE SEED: the statements are not yours to turn. If you find one false, say at which input.
  Laid BY PROGRAM, IN A SANDBOX (cutbox-rows.mjs): the forced cells as the released guide's own fill.sh prints them over the translation 97cf798ab4471731… (all of the seat's roots in one cut). By AI agents, Wed Nov 11 2026. No macro, syntax, notation, axiom, sorry.
-/
import Derived.Test.YtbacdpagpdmkoaaChecked
import GoSem.Claim
import GoSem.ClaimJoined
import GoSem.ClaimMapViews
import Derived.JoinedTies
import Derived.KernelRfl
namespace Go.Proofs.Ytbacdpagpdmkoaa
/- THE CELL 'sum', in the pinned program and in every row, IS THE sha256 OF THE DUMP (.gsa) THAT YtbacdpagpdmkoaaProg.lean LOADS. Nothing in Lean hashes anything: it is a label: what it is worth is what the hold of that sum in a sandbox is worth. -/
noncomputable def Try.pinned : Pinned := { name := "ytbacdpagpdmkoaa", sum := "97cf798ab4471731caa129be01f466fd8cd0354ff9dd07c2ddd5bc9f9453dca1", checked := Try.checked }
namespace Rows
def none {H : Type} : Left H := { results := [], args := [] }

/-- 'tollbarlaw2.Spans': WHATEVER THE INPUT: true; the input reads as it did. -/
def spansSpec : ChangeSpec := { name := "spans", fn := fun _ => fun
  | [d1, d2, d3] => { results := [.lit (.bool true)], args := [d1, d2, d3] }
  | _ => none }
def spansRow : OpenClaim := { program := "ytbacdpagpdmkoaa", sum := "97cf798ab4471731caa129be01f466fd8cd0354ff9dd07c2ddd5bc9f9453dca1", func := "tollbar/tollbarlaw2.Spans", spec := "spans", unfollowed := true, recurses := true, apart := false }
def SpansSaid : Prop := spansRow.holds Try.pinned (OpenSpec.ofChange spansSpec)

/-- ITS FALSE NEIGHBOUR: 'it returns false'. Refute it at one input. -/
def spansWrong : ChangeSpec := { name := "spans", fn := fun _ => fun
  | [d1, d2, d3] => { results := [.lit (.bool false)], args := [d1, d2, d3] }
  | _ => none }
def SpansWrongFalsely : Prop := spansRow.holds Try.pinned (OpenSpec.ofChange spansWrong)

/-- 'tollbarlaw2.SpanCovers': WHATEVER THE INPUT: true; the input reads as it did. -/
def spanCoversSpec : ChangeSpec := { name := "spanCovers", fn := fun _ => fun
  | [d] => { results := [.lit (.bool true)], args := [d] }
  | _ => none }
def spanCoversRow : OpenClaim := { program := "ytbacdpagpdmkoaa", sum := "97cf798ab4471731caa129be01f466fd8cd0354ff9dd07c2ddd5bc9f9453dca1", func := "tollbar/tollbarlaw2.SpanCovers", spec := "spanCovers", unfollowed := true, recurses := true, apart := false }
def SpanCoversSaid : Prop := spanCoversRow.holds Try.pinned (OpenSpec.ofChange spanCoversSpec)

/-- ITS FALSE NEIGHBOUR: 'it returns false'. Refute it at one input. -/
def spanCoversWrong : ChangeSpec := { name := "spanCovers", fn := fun _ => fun
  | [d] => { results := [.lit (.bool false)], args := [d] }
  | _ => none }
def SpanCoversWrongFalsely : Prop := spanCoversRow.holds Try.pinned (OpenSpec.ofChange spanCoversWrong)

/-- 'tollbarlaw2.SpanCuts': WHATEVER THE INPUT: true; the input reads as it did. -/
def spanCutsSpec : ChangeSpec := { name := "spanCuts", fn := fun _ => fun
  | [d1, d2] => { results := [.lit (.bool true)], args := [d1, d2] }
  | _ => none }
def spanCutsRow : OpenClaim := { program := "ytbacdpagpdmkoaa", sum := "97cf798ab4471731caa129be01f466fd8cd0354ff9dd07c2ddd5bc9f9453dca1", func := "tollbar/tollbarlaw2.SpanCuts", spec := "spanCuts", unfollowed := true, recurses := true, apart := false }
def SpanCutsSaid : Prop := spanCutsRow.holds Try.pinned (OpenSpec.ofChange spanCutsSpec)

/-- ITS FALSE NEIGHBOUR: 'it returns false'. Refute it at one input. -/
def spanCutsWrong : ChangeSpec := { name := "spanCuts", fn := fun _ => fun
  | [d1, d2] => { results := [.lit (.bool false)], args := [d1, d2] }
  | _ => none }
def SpanCutsWrongFalsely : Prop := spanCutsRow.holds Try.pinned (OpenSpec.ofChange spanCutsWrong)

/-- 'tollbarlaw2.SpanHulls': WHATEVER THE INPUT: true; the input reads as it did. -/
def spanHullsSpec : ChangeSpec := { name := "spanHulls", fn := fun _ => fun
  | [d1, d2] => { results := [.lit (.bool true)], args := [d1, d2] }
  | _ => none }
def spanHullsRow : OpenClaim := { program := "ytbacdpagpdmkoaa", sum := "97cf798ab4471731caa129be01f466fd8cd0354ff9dd07c2ddd5bc9f9453dca1", func := "tollbar/tollbarlaw2.SpanHulls", spec := "spanHulls", unfollowed := true, recurses := true, apart := false }
def SpanHullsSaid : Prop := spanHullsRow.holds Try.pinned (OpenSpec.ofChange spanHullsSpec)

/-- ITS FALSE NEIGHBOUR: 'it returns false'. Refute it at one input. -/
def spanHullsWrong : ChangeSpec := { name := "spanHulls", fn := fun _ => fun
  | [d1, d2] => { results := [.lit (.bool false)], args := [d1, d2] }
  | _ => none }
def SpanHullsWrongFalsely : Prop := spanHullsRow.holds Try.pinned (OpenSpec.ofChange spanHullsWrong)

/-- 'tollbarlaw18.Profiles': WHATEVER THE INPUT: true; the input reads as it did. -/
def profilesSpec : ChangeSpec := { name := "profiles", fn := fun _ => fun
  | [d1, d2, d3] => { results := [.lit (.bool true)], args := [d1, d2, d3] }
  | _ => none }
def profilesRow : OpenClaim := { program := "ytbacdpagpdmkoaa", sum := "97cf798ab4471731caa129be01f466fd8cd0354ff9dd07c2ddd5bc9f9453dca1", func := "tollbar/tollbarlaw18.Profiles", spec := "profiles", inPlace := ["slices.overlaps[tollbar/api.Run]"], unfollowed := true, recurses := true, apart := false }
def ProfilesSaid : Prop := profilesRow.holds Try.pinned (OpenSpec.ofChange profilesSpec)

/-- ITS FALSE NEIGHBOUR: 'it returns false'. Refute it at one input. -/
def profilesWrong : ChangeSpec := { name := "profiles", fn := fun _ => fun
  | [d1, d2, d3] => { results := [.lit (.bool false)], args := [d1, d2, d3] }
  | _ => none }
def ProfilesWrongFalsely : Prop := profilesRow.holds Try.pinned (OpenSpec.ofChange profilesWrong)

/-- 'tollbarlaw18.ProfileBuilds': WHATEVER THE INPUT: true; the input reads as it did. -/
def profileBuildsSpec : ChangeSpec := { name := "profileBuilds", fn := fun _ => fun
  | [d] => { results := [.lit (.bool true)], args := [d] }
  | _ => none }
def profileBuildsRow : OpenClaim := { program := "ytbacdpagpdmkoaa", sum := "97cf798ab4471731caa129be01f466fd8cd0354ff9dd07c2ddd5bc9f9453dca1", func := "tollbar/tollbarlaw18.ProfileBuilds", spec := "profileBuilds", inPlace := ["slices.overlaps[tollbar/api.Run]"], unfollowed := true, recurses := true, apart := false }
def ProfileBuildsSaid : Prop := profileBuildsRow.holds Try.pinned (OpenSpec.ofChange profileBuildsSpec)

/-- ITS FALSE NEIGHBOUR: 'it returns false'. Refute it at one input. -/
def profileBuildsWrong : ChangeSpec := { name := "profileBuilds", fn := fun _ => fun
  | [d] => { results := [.lit (.bool false)], args := [d] }
  | _ => none }
def ProfileBuildsWrongFalsely : Prop := profileBuildsRow.holds Try.pinned (OpenSpec.ofChange profileBuildsWrong)

/-- 'tollbarlaw18.ProfileChanges': WHATEVER THE INPUT: true; the input reads as it did. -/
def profileChangesSpec : ChangeSpec := { name := "profileChanges", fn := fun _ => fun
  | [d1, d2] => { results := [.lit (.bool true)], args := [d1, d2] }
  | _ => none }
def profileChangesRow : OpenClaim := { program := "ytbacdpagpdmkoaa", sum := "97cf798ab4471731caa129be01f466fd8cd0354ff9dd07c2ddd5bc9f9453dca1", func := "tollbar/tollbarlaw18.ProfileChanges", spec := "profileChanges", inPlace := ["slices.overlaps[tollbar/api.Run]"], unfollowed := true, recurses := true, apart := false }
def ProfileChangesSaid : Prop := profileChangesRow.holds Try.pinned (OpenSpec.ofChange profileChangesSpec)

/-- ITS FALSE NEIGHBOUR: 'it returns false'. Refute it at one input. -/
def profileChangesWrong : ChangeSpec := { name := "profileChanges", fn := fun _ => fun
  | [d1, d2] => { results := [.lit (.bool false)], args := [d1, d2] }
  | _ => none }
def ProfileChangesWrongFalsely : Prop := profileChangesRow.holds Try.pinned (OpenSpec.ofChange profileChangesWrong)

/-- 'tollbarlaw18.ProfileBack': WHATEVER THE INPUT: true; the input reads as it did. -/
def profileBackSpec : ChangeSpec := { name := "profileBack", fn := fun _ => fun
  | [d1, d2] => { results := [.lit (.bool true)], args := [d1, d2] }
  | _ => none }
def profileBackRow : OpenClaim := { program := "ytbacdpagpdmkoaa", sum := "97cf798ab4471731caa129be01f466fd8cd0354ff9dd07c2ddd5bc9f9453dca1", func := "tollbar/tollbarlaw18.ProfileBack", spec := "profileBack", inPlace := ["slices.overlaps[tollbar/api.Run]"], unfollowed := true, recurses := true, apart := false }
def ProfileBackSaid : Prop := profileBackRow.holds Try.pinned (OpenSpec.ofChange profileBackSpec)

/-- ITS FALSE NEIGHBOUR: 'it returns false'. Refute it at one input. -/
def profileBackWrong : ChangeSpec := { name := "profileBack", fn := fun _ => fun
  | [d1, d2] => { results := [.lit (.bool false)], args := [d1, d2] }
  | _ => none }
def ProfileBackWrongFalsely : Prop := profileBackRow.holds Try.pinned (OpenSpec.ofChange profileBackWrong)

/-- 'tollbarlaw18.ProfilePiles': WHATEVER THE INPUT: true; the input reads as it did. -/
def profilePilesSpec : ChangeSpec := { name := "profilePiles", fn := fun _ => fun
  | [d1, d2] => { results := [.lit (.bool true)], args := [d1, d2] }
  | _ => none }
def profilePilesRow : OpenClaim := { program := "ytbacdpagpdmkoaa", sum := "97cf798ab4471731caa129be01f466fd8cd0354ff9dd07c2ddd5bc9f9453dca1", func := "tollbar/tollbarlaw18.ProfilePiles", spec := "profilePiles", inPlace := ["slices.overlaps[tollbar/api.Run]"], unfollowed := true, recurses := true, apart := false }
def ProfilePilesSaid : Prop := profilePilesRow.holds Try.pinned (OpenSpec.ofChange profilePilesSpec)

/-- ITS FALSE NEIGHBOUR: 'it returns false'. Refute it at one input. -/
def profilePilesWrong : ChangeSpec := { name := "profilePiles", fn := fun _ => fun
  | [d1, d2] => { results := [.lit (.bool false)], args := [d1, d2] }
  | _ => none }
def ProfilePilesWrongFalsely : Prop := profilePilesRow.holds Try.pinned (OpenSpec.ofChange profilePilesWrong)

/-- 'tollbarlaw18.ProfileTops': WHATEVER THE INPUT: true; the input reads as it did. -/
def profileTopsSpec : ChangeSpec := { name := "profileTops", fn := fun _ => fun
  | [d1, d2, d3] => { results := [.lit (.bool true)], args := [d1, d2, d3] }
  | _ => none }
def profileTopsRow : OpenClaim := { program := "ytbacdpagpdmkoaa", sum := "97cf798ab4471731caa129be01f466fd8cd0354ff9dd07c2ddd5bc9f9453dca1", func := "tollbar/tollbarlaw18.ProfileTops", spec := "profileTops", inPlace := ["slices.overlaps[tollbar/api.Run]"], unfollowed := true, recurses := true, apart := false }
def ProfileTopsSaid : Prop := profileTopsRow.holds Try.pinned (OpenSpec.ofChange profileTopsSpec)

/-- ITS FALSE NEIGHBOUR: 'it returns false'. Refute it at one input. -/
def profileTopsWrong : ChangeSpec := { name := "profileTops", fn := fun _ => fun
  | [d1, d2, d3] => { results := [.lit (.bool false)], args := [d1, d2, d3] }
  | _ => none }
def ProfileTopsWrongFalsely : Prop := profileTopsRow.holds Try.pinned (OpenSpec.ofChange profileTopsWrong)

/- THE SECOND FORM. 'bulk': how many values and letters a reading holds, each counted each time it is reached (what is shared counts as often as it is met; a slice's spare places count too). A statement '..UptoSaid' is the law's where the arguments, and the package variables that the reading takes, are together of bulk at most 1048576: NARROWER than '..Said'. Prove '..Said' where nothing that the law and all that it calls make is longer than what came in: it says more and counts as full. Else prove '..UptoSaid'. A law counts once. -/
mutual
def uptoBulk {H : Type} : DataW H → Nat
  | .lit (.string bytes) => bytes.length + 1
  | .lit _ => 1
  | .nil => 1
  | .ptr d => uptoBulk d + 1
  | .slice elems spare => uptoBulkAll elems + uptoBulkAll spare + 1
  | .agg parts => uptoBulkAll parts + 1
  | .iface _ d => uptoBulk d + 1
  | .map entries => uptoBulkEntries entries + 1
  | .held _ => 1
def uptoBulkAll {H : Type} : List (DataW H) → Nat
  | [] => 0
  | d :: r => uptoBulk d + uptoBulkAll r
def uptoBulkEntries {H : Type} : List (Lit × DataW H) → Nat
  | [] => 0
  | x :: r => uptoBulkEntry x + uptoBulkEntries r
def uptoBulkEntry {H : Type} : Lit × DataW H → Nat
  | (.string bytes, d) => bytes.length + uptoBulk d + 1
  | (_, d) => uptoBulk d + 1
 end
def uptoSmall : (H : Type) → List (DataW H) → Bool := fun _ ds => decide (uptoBulkAll ds ≤ 1048576)
def OpenSpec.upto (s : _root_.Go.ChangeSpec) : _root_.Go.OpenSpec := { _root_.Go.OpenSpec.ofChange s with cond := some uptoSmall }

/-- 'tollbarlaw2.Spans', WHERE WHAT IT READS IS OF BULK AT MOST 1048576: true; the input reads as it did. -/
def spansUptoRow : OpenClaim := { program := "ytbacdpagpdmkoaa", sum := "97cf798ab4471731caa129be01f466fd8cd0354ff9dd07c2ddd5bc9f9453dca1", func := "tollbar/tollbarlaw2.Spans", spec := "spans", unfollowed := true, recurses := true, apart := false, narrowed := true }
def SpansUptoSaid : Prop := spansUptoRow.holds Try.pinned (OpenSpec.upto spansSpec)

/-- 'tollbarlaw2.SpanCovers', WHERE WHAT IT READS IS OF BULK AT MOST 1048576: true; the input reads as it did. -/
def spanCoversUptoRow : OpenClaim := { program := "ytbacdpagpdmkoaa", sum := "97cf798ab4471731caa129be01f466fd8cd0354ff9dd07c2ddd5bc9f9453dca1", func := "tollbar/tollbarlaw2.SpanCovers", spec := "spanCovers", unfollowed := true, recurses := true, apart := false, narrowed := true }
def SpanCoversUptoSaid : Prop := spanCoversUptoRow.holds Try.pinned (OpenSpec.upto spanCoversSpec)

/-- 'tollbarlaw2.SpanCuts', WHERE WHAT IT READS IS OF BULK AT MOST 1048576: true; the input reads as it did. -/
def spanCutsUptoRow : OpenClaim := { program := "ytbacdpagpdmkoaa", sum := "97cf798ab4471731caa129be01f466fd8cd0354ff9dd07c2ddd5bc9f9453dca1", func := "tollbar/tollbarlaw2.SpanCuts", spec := "spanCuts", unfollowed := true, recurses := true, apart := false, narrowed := true }
def SpanCutsUptoSaid : Prop := spanCutsUptoRow.holds Try.pinned (OpenSpec.upto spanCutsSpec)

/-- 'tollbarlaw2.SpanHulls', WHERE WHAT IT READS IS OF BULK AT MOST 1048576: true; the input reads as it did. -/
def spanHullsUptoRow : OpenClaim := { program := "ytbacdpagpdmkoaa", sum := "97cf798ab4471731caa129be01f466fd8cd0354ff9dd07c2ddd5bc9f9453dca1", func := "tollbar/tollbarlaw2.SpanHulls", spec := "spanHulls", unfollowed := true, recurses := true, apart := false, narrowed := true }
def SpanHullsUptoSaid : Prop := spanHullsUptoRow.holds Try.pinned (OpenSpec.upto spanHullsSpec)

/-- 'tollbarlaw18.Profiles', WHERE WHAT IT READS IS OF BULK AT MOST 1048576: true; the input reads as it did. -/
def profilesUptoRow : OpenClaim := { program := "ytbacdpagpdmkoaa", sum := "97cf798ab4471731caa129be01f466fd8cd0354ff9dd07c2ddd5bc9f9453dca1", func := "tollbar/tollbarlaw18.Profiles", spec := "profiles", inPlace := ["slices.overlaps[tollbar/api.Run]"], unfollowed := true, recurses := true, apart := false, narrowed := true }
def ProfilesUptoSaid : Prop := profilesUptoRow.holds Try.pinned (OpenSpec.upto profilesSpec)

/-- 'tollbarlaw18.ProfileBuilds', WHERE WHAT IT READS IS OF BULK AT MOST 1048576: true; the input reads as it did. -/
def profileBuildsUptoRow : OpenClaim := { program := "ytbacdpagpdmkoaa", sum := "97cf798ab4471731caa129be01f466fd8cd0354ff9dd07c2ddd5bc9f9453dca1", func := "tollbar/tollbarlaw18.ProfileBuilds", spec := "profileBuilds", inPlace := ["slices.overlaps[tollbar/api.Run]"], unfollowed := true, recurses := true, apart := false, narrowed := true }
def ProfileBuildsUptoSaid : Prop := profileBuildsUptoRow.holds Try.pinned (OpenSpec.upto profileBuildsSpec)

/-- 'tollbarlaw18.ProfileChanges', WHERE WHAT IT READS IS OF BULK AT MOST 1048576: true; the input reads as it did. -/
def profileChangesUptoRow : OpenClaim := { program := "ytbacdpagpdmkoaa", sum := "97cf798ab4471731caa129be01f466fd8cd0354ff9dd07c2ddd5bc9f9453dca1", func := "tollbar/tollbarlaw18.ProfileChanges", spec := "profileChanges", inPlace := ["slices.overlaps[tollbar/api.Run]"], unfollowed := true, recurses := true, apart := false, narrowed := true }
def ProfileChangesUptoSaid : Prop := profileChangesUptoRow.holds Try.pinned (OpenSpec.upto profileChangesSpec)

/-- 'tollbarlaw18.ProfileBack', WHERE WHAT IT READS IS OF BULK AT MOST 1048576: true; the input reads as it did. -/
def profileBackUptoRow : OpenClaim := { program := "ytbacdpagpdmkoaa", sum := "97cf798ab4471731caa129be01f466fd8cd0354ff9dd07c2ddd5bc9f9453dca1", func := "tollbar/tollbarlaw18.ProfileBack", spec := "profileBack", inPlace := ["slices.overlaps[tollbar/api.Run]"], unfollowed := true, recurses := true, apart := false, narrowed := true }
def ProfileBackUptoSaid : Prop := profileBackUptoRow.holds Try.pinned (OpenSpec.upto profileBackSpec)

/-- 'tollbarlaw18.ProfilePiles', WHERE WHAT IT READS IS OF BULK AT MOST 1048576: true; the input reads as it did. -/
def profilePilesUptoRow : OpenClaim := { program := "ytbacdpagpdmkoaa", sum := "97cf798ab4471731caa129be01f466fd8cd0354ff9dd07c2ddd5bc9f9453dca1", func := "tollbar/tollbarlaw18.ProfilePiles", spec := "profilePiles", inPlace := ["slices.overlaps[tollbar/api.Run]"], unfollowed := true, recurses := true, apart := false, narrowed := true }
def ProfilePilesUptoSaid : Prop := profilePilesUptoRow.holds Try.pinned (OpenSpec.upto profilePilesSpec)

/-- 'tollbarlaw18.ProfileTops', WHERE WHAT IT READS IS OF BULK AT MOST 1048576: true; the input reads as it did. -/
def profileTopsUptoRow : OpenClaim := { program := "ytbacdpagpdmkoaa", sum := "97cf798ab4471731caa129be01f466fd8cd0354ff9dd07c2ddd5bc9f9453dca1", func := "tollbar/tollbarlaw18.ProfileTops", spec := "profileTops", inPlace := ["slices.overlaps[tollbar/api.Run]"], unfollowed := true, recurses := true, apart := false, narrowed := true }
def ProfileTopsUptoSaid : Prop := profileTopsUptoRow.holds Try.pinned (OpenSpec.upto profileTopsSpec)

end Rows
end Go.Proofs.Ytbacdpagpdmkoaa
