/-
  No cell of these rows narrows 'for every input' (looked for: loops, veiled, ifaces, maps, wideKeys, modest, calm, conditions, laid).
  DERIVED. THE GIVEN ROWS OF THIS SEAT. 10 by the template 'for every input the law returns true; each argument reads behind the call as it read before'; 0 by the template 'total and deterministic' (their statements: YteikgpdjfhdneaaTotals.lean).
  GIVEN WITH THE SEED: the statements are not yours to turn. If you find one false, say at which input.
  Laid BY PROGRAM, IN A SANDBOX (cutbox-rows.mjs): the forced cells as the released guide's own fill.sh prints them over the translation dadd58c11467c110… (all of the seat's roots in one cut). By AI agents, Wed Nov 11 2026. No macro, syntax, notation, axiom, sorry.
-/
import Derived.Test.YteikgpdjfhdneaaChecked
import GoSem.Claim
import GoSem.ClaimJoined
import GoSem.ClaimMapViews
import Derived.JoinedTies
import Derived.KernelRfl
namespace Go.Proofs.Yteikgpdjfhdneaa
/- THE CELL 'sum', in the pinned program and in every row, IS THE sha256 OF THE DUMP (.gsa) THAT YteikgpdjfhdneaaProg.lean LOADS. Nothing in Lean hashes anything: it is a label: what it is worth is what the hold of that sum in a sandbox is worth. -/
noncomputable def Try.pinned : Pinned := { name := "yteikgpdjfhdneaa", sum := "dadd58c11467c1108268307fc8bccf5639c3fd859d6c026b98dc90b541a96cf5", checked := Try.checked }
namespace Rows
def none {H : Type} : Left H := { results := [], args := [] }

/-- 'tollbarlaw24.Topos': WHATEVER THE INPUT: true; the input reads as it did. -/
def toposSpec : ChangeSpec := { name := "topos", fn := fun _ => fun
  | [d] => { results := [.lit (.bool true)], args := [d] }
  | _ => none }
def toposRow : OpenClaim := { program := "yteikgpdjfhdneaa", sum := "dadd58c11467c1108268307fc8bccf5639c3fd859d6c026b98dc90b541a96cf5", func := "tollbar/tollbarlaw24.Topos", spec := "topos", inPlace := ["internal/abi.NoEscape"], unfollowed := true, recurses := true, apart := false }
def ToposSaid : Prop := toposRow.holds Try.pinned (OpenSpec.ofChange toposSpec)

/-- ITS FALSE NEIGHBOUR: 'it returns false'. Refute it at one input. -/
def toposWrong : ChangeSpec := { name := "topos", fn := fun _ => fun
  | [d] => { results := [.lit (.bool false)], args := [d] }
  | _ => none }
def ToposWrongFalsely : Prop := toposRow.holds Try.pinned (OpenSpec.ofChange toposWrong)

/-- 'tollbarlaw24.TopoReads': WHATEVER THE INPUT: true; the input reads as it did. -/
def topoReadsSpec : ChangeSpec := { name := "topoReads", fn := fun _ => fun
  | [d] => { results := [.lit (.bool true)], args := [d] }
  | _ => none }
def topoReadsRow : OpenClaim := { program := "yteikgpdjfhdneaa", sum := "dadd58c11467c1108268307fc8bccf5639c3fd859d6c026b98dc90b541a96cf5", func := "tollbar/tollbarlaw24.TopoReads", spec := "topoReads", inPlace := ["internal/abi.NoEscape"], unfollowed := true, recurses := true, apart := false }
def TopoReadsSaid : Prop := topoReadsRow.holds Try.pinned (OpenSpec.ofChange topoReadsSpec)

/-- ITS FALSE NEIGHBOUR: 'it returns false'. Refute it at one input. -/
def topoReadsWrong : ChangeSpec := { name := "topoReads", fn := fun _ => fun
  | [d] => { results := [.lit (.bool false)], args := [d] }
  | _ => none }
def TopoReadsWrongFalsely : Prop := topoReadsRow.holds Try.pinned (OpenSpec.ofChange topoReadsWrong)

/-- 'tollbarlaw24.TopoBack': WHATEVER THE INPUT: true; the input reads as it did. -/
def topoBackSpec : ChangeSpec := { name := "topoBack", fn := fun _ => fun
  | [d] => { results := [.lit (.bool true)], args := [d] }
  | _ => none }
def topoBackRow : OpenClaim := { program := "yteikgpdjfhdneaa", sum := "dadd58c11467c1108268307fc8bccf5639c3fd859d6c026b98dc90b541a96cf5", func := "tollbar/tollbarlaw24.TopoBack", spec := "topoBack", inPlace := ["internal/abi.NoEscape"], unfollowed := true, recurses := true, apart := false }
def TopoBackSaid : Prop := topoBackRow.holds Try.pinned (OpenSpec.ofChange topoBackSpec)

/-- ITS FALSE NEIGHBOUR: 'it returns false'. Refute it at one input. -/
def topoBackWrong : ChangeSpec := { name := "topoBack", fn := fun _ => fun
  | [d] => { results := [.lit (.bool false)], args := [d] }
  | _ => none }
def TopoBackWrongFalsely : Prop := topoBackRow.holds Try.pinned (OpenSpec.ofChange topoBackWrong)

/-- 'tollbarlaw24.TopoForms': WHATEVER THE INPUT: true; the input reads as it did. -/
def topoFormsSpec : ChangeSpec := { name := "topoForms", fn := fun _ => fun
  | [d] => { results := [.lit (.bool true)], args := [d] }
  | _ => none }
def topoFormsRow : OpenClaim := { program := "yteikgpdjfhdneaa", sum := "dadd58c11467c1108268307fc8bccf5639c3fd859d6c026b98dc90b541a96cf5", func := "tollbar/tollbarlaw24.TopoForms", spec := "topoForms", inPlace := ["internal/abi.NoEscape"], unfollowed := true, recurses := true, apart := false }
def TopoFormsSaid : Prop := topoFormsRow.holds Try.pinned (OpenSpec.ofChange topoFormsSpec)

/-- ITS FALSE NEIGHBOUR: 'it returns false'. Refute it at one input. -/
def topoFormsWrong : ChangeSpec := { name := "topoForms", fn := fun _ => fun
  | [d] => { results := [.lit (.bool false)], args := [d] }
  | _ => none }
def TopoFormsWrongFalsely : Prop := topoFormsRow.holds Try.pinned (OpenSpec.ofChange topoFormsWrong)

/-- 'tollbarlaw24.TopoApart': WHATEVER THE INPUT: true; the input reads as it did. -/
def topoApartSpec : ChangeSpec := { name := "topoApart", fn := fun _ => fun
  | [d1, d2] => { results := [.lit (.bool true)], args := [d1, d2] }
  | _ => none }
def topoApartRow : OpenClaim := { program := "yteikgpdjfhdneaa", sum := "dadd58c11467c1108268307fc8bccf5639c3fd859d6c026b98dc90b541a96cf5", func := "tollbar/tollbarlaw24.TopoApart", spec := "topoApart", inPlace := ["internal/abi.NoEscape"], unfollowed := true, recurses := true, apart := false }
def TopoApartSaid : Prop := topoApartRow.holds Try.pinned (OpenSpec.ofChange topoApartSpec)

/-- ITS FALSE NEIGHBOUR: 'it returns false'. Refute it at one input. -/
def topoApartWrong : ChangeSpec := { name := "topoApart", fn := fun _ => fun
  | [d1, d2] => { results := [.lit (.bool false)], args := [d1, d2] }
  | _ => none }
def TopoApartWrongFalsely : Prop := topoApartRow.holds Try.pinned (OpenSpec.ofChange topoApartWrong)

/-- 'tollbarlaw23.Tells': WHATEVER THE INPUT: true; the input reads as it did. -/
def tellsSpec : ChangeSpec := { name := "tells", fn := fun _ => fun
  | [d] => { results := [.lit (.bool true)], args := [d] }
  | _ => none }
def tellsRow : OpenClaim := { program := "yteikgpdjfhdneaa", sum := "dadd58c11467c1108268307fc8bccf5639c3fd859d6c026b98dc90b541a96cf5", func := "tollbar/tollbarlaw23.Tells", spec := "tells", inPlace := ["internal/abi.NoEscape"], apart := false }
def TellsSaid : Prop := tellsRow.holds Try.pinned (OpenSpec.ofChange tellsSpec)

/-- ITS FALSE NEIGHBOUR: 'it returns false'. Refute it at one input. -/
def tellsWrong : ChangeSpec := { name := "tells", fn := fun _ => fun
  | [d] => { results := [.lit (.bool false)], args := [d] }
  | _ => none }
def TellsWrongFalsely : Prop := tellsRow.holds Try.pinned (OpenSpec.ofChange tellsWrong)

/-- 'tollbarlaw23.TellReads': WHATEVER THE INPUT: true; the input reads as it did. -/
def tellReadsSpec : ChangeSpec := { name := "tellReads", fn := fun _ => fun
  | [d] => { results := [.lit (.bool true)], args := [d] }
  | _ => none }
def tellReadsRow : OpenClaim := { program := "yteikgpdjfhdneaa", sum := "dadd58c11467c1108268307fc8bccf5639c3fd859d6c026b98dc90b541a96cf5", func := "tollbar/tollbarlaw23.TellReads", spec := "tellReads", inPlace := ["internal/abi.NoEscape"], apart := false }
def TellReadsSaid : Prop := tellReadsRow.holds Try.pinned (OpenSpec.ofChange tellReadsSpec)

/-- ITS FALSE NEIGHBOUR: 'it returns false'. Refute it at one input. -/
def tellReadsWrong : ChangeSpec := { name := "tellReads", fn := fun _ => fun
  | [d] => { results := [.lit (.bool false)], args := [d] }
  | _ => none }
def TellReadsWrongFalsely : Prop := tellReadsRow.holds Try.pinned (OpenSpec.ofChange tellReadsWrong)

/-- 'tollbarlaw23.TellBack': WHATEVER THE INPUT: true; the input reads as it did. -/
def tellBackSpec : ChangeSpec := { name := "tellBack", fn := fun _ => fun
  | [d] => { results := [.lit (.bool true)], args := [d] }
  | _ => none }
def tellBackRow : OpenClaim := { program := "yteikgpdjfhdneaa", sum := "dadd58c11467c1108268307fc8bccf5639c3fd859d6c026b98dc90b541a96cf5", func := "tollbar/tollbarlaw23.TellBack", spec := "tellBack", inPlace := ["internal/abi.NoEscape"], apart := false }
def TellBackSaid : Prop := tellBackRow.holds Try.pinned (OpenSpec.ofChange tellBackSpec)

/-- ITS FALSE NEIGHBOUR: 'it returns false'. Refute it at one input. -/
def tellBackWrong : ChangeSpec := { name := "tellBack", fn := fun _ => fun
  | [d] => { results := [.lit (.bool false)], args := [d] }
  | _ => none }
def TellBackWrongFalsely : Prop := tellBackRow.holds Try.pinned (OpenSpec.ofChange tellBackWrong)

/-- 'tollbarlaw23.TellForms': WHATEVER THE INPUT: true; the input reads as it did. -/
def tellFormsSpec : ChangeSpec := { name := "tellForms", fn := fun _ => fun
  | [d] => { results := [.lit (.bool true)], args := [d] }
  | _ => none }
def tellFormsRow : OpenClaim := { program := "yteikgpdjfhdneaa", sum := "dadd58c11467c1108268307fc8bccf5639c3fd859d6c026b98dc90b541a96cf5", func := "tollbar/tollbarlaw23.TellForms", spec := "tellForms", inPlace := ["internal/abi.NoEscape"], apart := false }
def TellFormsSaid : Prop := tellFormsRow.holds Try.pinned (OpenSpec.ofChange tellFormsSpec)

/-- ITS FALSE NEIGHBOUR: 'it returns false'. Refute it at one input. -/
def tellFormsWrong : ChangeSpec := { name := "tellForms", fn := fun _ => fun
  | [d] => { results := [.lit (.bool false)], args := [d] }
  | _ => none }
def TellFormsWrongFalsely : Prop := tellFormsRow.holds Try.pinned (OpenSpec.ofChange tellFormsWrong)

/-- 'tollbarlaw23.TellApart': WHATEVER THE INPUT: true; the input reads as it did. -/
def tellApartSpec : ChangeSpec := { name := "tellApart", fn := fun _ => fun
  | [d1, d2] => { results := [.lit (.bool true)], args := [d1, d2] }
  | _ => none }
def tellApartRow : OpenClaim := { program := "yteikgpdjfhdneaa", sum := "dadd58c11467c1108268307fc8bccf5639c3fd859d6c026b98dc90b541a96cf5", func := "tollbar/tollbarlaw23.TellApart", spec := "tellApart", inPlace := ["internal/abi.NoEscape"], apart := false }
def TellApartSaid : Prop := tellApartRow.holds Try.pinned (OpenSpec.ofChange tellApartSpec)

/-- ITS FALSE NEIGHBOUR: 'it returns false'. Refute it at one input. -/
def tellApartWrong : ChangeSpec := { name := "tellApart", fn := fun _ => fun
  | [d1, d2] => { results := [.lit (.bool false)], args := [d1, d2] }
  | _ => none }
def TellApartWrongFalsely : Prop := tellApartRow.holds Try.pinned (OpenSpec.ofChange tellApartWrong)

/- THE SECOND FORM. 'bulk': how many values and letters a reading holds, each counted each time it is reached (what is shared counts as often as it is met; a slice's spare places count too). A statement '..UptoSaid' is the law's where the arguments, and the package variables that the reading takes, are together of bulk at most 1048576: NARROWER than '..Said'. Prove '..Said' where nothing that the law and all that it calls make is longer than what came in: it says more and counts as full. Else prove '..UptoSaid'. A law counts once. -/
mutual
def uptoBulk {H : Type} : DataW H → Nat
  | .lit (.string bytes) => bytes.length + 1
  | .lit _ => 1
  | .nil => 1
  | .ptr d => uptoBulk d + 1
  | .slice elems spare => uptoBulkAll elems + uptoBulkAll spare + 1
  | .agg parts => uptoBulkAll parts + 1
  | .iface _ d => uptoBulk d + 1
  | .map entries => uptoBulkEntries entries + 1
  | .held _ => 1
def uptoBulkAll {H : Type} : List (DataW H) → Nat
  | [] => 0
  | d :: r => uptoBulk d + uptoBulkAll r
def uptoBulkEntries {H : Type} : List (Lit × DataW H) → Nat
  | [] => 0
  | x :: r => uptoBulkEntry x + uptoBulkEntries r
def uptoBulkEntry {H : Type} : Lit × DataW H → Nat
  | (.string bytes, d) => bytes.length + uptoBulk d + 1
  | (_, d) => uptoBulk d + 1
 end
def uptoSmall : (H : Type) → List (DataW H) → Bool := fun _ ds => decide (uptoBulkAll ds ≤ 1048576)
def OpenSpec.upto (s : _root_.Go.ChangeSpec) : _root_.Go.OpenSpec := { _root_.Go.OpenSpec.ofChange s with cond := some uptoSmall }

/-- 'tollbarlaw24.Topos', WHERE WHAT IT READS IS OF BULK AT MOST 1048576: true; the input reads as it did. -/
def toposUptoRow : OpenClaim := { program := "yteikgpdjfhdneaa", sum := "dadd58c11467c1108268307fc8bccf5639c3fd859d6c026b98dc90b541a96cf5", func := "tollbar/tollbarlaw24.Topos", spec := "topos", inPlace := ["internal/abi.NoEscape"], unfollowed := true, recurses := true, apart := false, narrowed := true }
def ToposUptoSaid : Prop := toposUptoRow.holds Try.pinned (OpenSpec.upto toposSpec)

/-- 'tollbarlaw24.TopoReads', WHERE WHAT IT READS IS OF BULK AT MOST 1048576: true; the input reads as it did. -/
def topoReadsUptoRow : OpenClaim := { program := "yteikgpdjfhdneaa", sum := "dadd58c11467c1108268307fc8bccf5639c3fd859d6c026b98dc90b541a96cf5", func := "tollbar/tollbarlaw24.TopoReads", spec := "topoReads", inPlace := ["internal/abi.NoEscape"], unfollowed := true, recurses := true, apart := false, narrowed := true }
def TopoReadsUptoSaid : Prop := topoReadsUptoRow.holds Try.pinned (OpenSpec.upto topoReadsSpec)

/-- 'tollbarlaw24.TopoBack', WHERE WHAT IT READS IS OF BULK AT MOST 1048576: true; the input reads as it did. -/
def topoBackUptoRow : OpenClaim := { program := "yteikgpdjfhdneaa", sum := "dadd58c11467c1108268307fc8bccf5639c3fd859d6c026b98dc90b541a96cf5", func := "tollbar/tollbarlaw24.TopoBack", spec := "topoBack", inPlace := ["internal/abi.NoEscape"], unfollowed := true, recurses := true, apart := false, narrowed := true }
def TopoBackUptoSaid : Prop := topoBackUptoRow.holds Try.pinned (OpenSpec.upto topoBackSpec)

/-- 'tollbarlaw24.TopoForms', WHERE WHAT IT READS IS OF BULK AT MOST 1048576: true; the input reads as it did. -/
def topoFormsUptoRow : OpenClaim := { program := "yteikgpdjfhdneaa", sum := "dadd58c11467c1108268307fc8bccf5639c3fd859d6c026b98dc90b541a96cf5", func := "tollbar/tollbarlaw24.TopoForms", spec := "topoForms", inPlace := ["internal/abi.NoEscape"], unfollowed := true, recurses := true, apart := false, narrowed := true }
def TopoFormsUptoSaid : Prop := topoFormsUptoRow.holds Try.pinned (OpenSpec.upto topoFormsSpec)

/-- 'tollbarlaw24.TopoApart', WHERE WHAT IT READS IS OF BULK AT MOST 1048576: true; the input reads as it did. -/
def topoApartUptoRow : OpenClaim := { program := "yteikgpdjfhdneaa", sum := "dadd58c11467c1108268307fc8bccf5639c3fd859d6c026b98dc90b541a96cf5", func := "tollbar/tollbarlaw24.TopoApart", spec := "topoApart", inPlace := ["internal/abi.NoEscape"], unfollowed := true, recurses := true, apart := false, narrowed := true }
def TopoApartUptoSaid : Prop := topoApartUptoRow.holds Try.pinned (OpenSpec.upto topoApartSpec)

/-- 'tollbarlaw23.Tells', WHERE WHAT IT READS IS OF BULK AT MOST 1048576: true; the input reads as it did. -/
def tellsUptoRow : OpenClaim := { program := "yteikgpdjfhdneaa", sum := "dadd58c11467c1108268307fc8bccf5639c3fd859d6c026b98dc90b541a96cf5", func := "tollbar/tollbarlaw23.Tells", spec := "tells", inPlace := ["internal/abi.NoEscape"], apart := false, narrowed := true }
def TellsUptoSaid : Prop := tellsUptoRow.holds Try.pinned (OpenSpec.upto tellsSpec)

/-- 'tollbarlaw23.TellReads', WHERE WHAT IT READS IS OF BULK AT MOST 1048576: true; the input reads as it did. -/
def tellReadsUptoRow : OpenClaim := { program := "yteikgpdjfhdneaa", sum := "dadd58c11467c1108268307fc8bccf5639c3fd859d6c026b98dc90b541a96cf5", func := "tollbar/tollbarlaw23.TellReads", spec := "tellReads", inPlace := ["internal/abi.NoEscape"], apart := false, narrowed := true }
def TellReadsUptoSaid : Prop := tellReadsUptoRow.holds Try.pinned (OpenSpec.upto tellReadsSpec)

/-- 'tollbarlaw23.TellBack', WHERE WHAT IT READS IS OF BULK AT MOST 1048576: true; the input reads as it did. -/
def tellBackUptoRow : OpenClaim := { program := "yteikgpdjfhdneaa", sum := "dadd58c11467c1108268307fc8bccf5639c3fd859d6c026b98dc90b541a96cf5", func := "tollbar/tollbarlaw23.TellBack", spec := "tellBack", inPlace := ["internal/abi.NoEscape"], apart := false, narrowed := true }
def TellBackUptoSaid : Prop := tellBackUptoRow.holds Try.pinned (OpenSpec.upto tellBackSpec)

/-- 'tollbarlaw23.TellForms', WHERE WHAT IT READS IS OF BULK AT MOST 1048576: true; the input reads as it did. -/
def tellFormsUptoRow : OpenClaim := { program := "yteikgpdjfhdneaa", sum := "dadd58c11467c1108268307fc8bccf5639c3fd859d6c026b98dc90b541a96cf5", func := "tollbar/tollbarlaw23.TellForms", spec := "tellForms", inPlace := ["internal/abi.NoEscape"], apart := false, narrowed := true }
def TellFormsUptoSaid : Prop := tellFormsUptoRow.holds Try.pinned (OpenSpec.upto tellFormsSpec)

/-- 'tollbarlaw23.TellApart', WHERE WHAT IT READS IS OF BULK AT MOST 1048576: true; the input reads as it did. -/
def tellApartUptoRow : OpenClaim := { program := "yteikgpdjfhdneaa", sum := "dadd58c11467c1108268307fc8bccf5639c3fd859d6c026b98dc90b541a96cf5", func := "tollbar/tollbarlaw23.TellApart", spec := "tellApart", inPlace := ["internal/abi.NoEscape"], apart := false, narrowed := true }
def TellApartUptoSaid : Prop := tellApartUptoRow.holds Try.pinned (OpenSpec.upto tellApartSpec)

end Rows
end Go.Proofs.Yteikgpdjfhdneaa
