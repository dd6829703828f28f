/-
  No cell of these rows narrows 'for every input' (looked for: loops, veiled, ifaces, maps, wideKeys, modest, calm, conditions, laid).
  DERIVED. THE GIVEN ROWS OF THIS SEAT. 9 by the template 'for every input the law returns true; each argument reads behind the call as it read before'; 0 by the template 'total and deterministic' (their statements: YtildlbmhdiknfaaTotals.lean).
  GIVEN WITH THE SEED: the statements are not yours to turn. If you find one false, say at which input.
  Laid BY PROGRAM, IN A SANDBOX (cutbox-rows.mjs): the forced cells as the released guide's own fill.sh prints them over the translation 68ba3e330e8b441a… (all of the seat's roots in one cut). By AI agents, Wed Nov 11 2026. No macro, syntax, notation, axiom, sorry.
-/
import Derived.Test.YtildlbmhdiknfaaChecked
import GoSem.Claim
import GoSem.ClaimJoined
import GoSem.ClaimMapViews
import Derived.JoinedTies
import Derived.KernelRfl
namespace Go.Proofs.Ytildlbmhdiknfaa
/- THE CELL 'sum', in the pinned program and in every row, IS THE sha256 OF THE DUMP (.gsa) THAT YtildlbmhdiknfaaProg.lean LOADS. Nothing in Lean hashes anything: it is a label: what it is worth is what the hold of that sum in a sandbox is worth. -/
noncomputable def Try.pinned : Pinned := { name := "ytildlbmhdiknfaa", sum := "68ba3e330e8b441a9c1e2810f45b5435e1a59d947095e090f3445c9b0db8e1a2", checked := Try.checked }
namespace Rows
def none {H : Type} : Left H := { results := [], args := [] }

/-- 'tollbarlaw25.Frames': WHATEVER THE INPUT: true; the input reads as it did. -/
def framesSpec : ChangeSpec := { name := "frames", fn := fun _ => fun
  | [d] => { results := [.lit (.bool true)], args := [d] }
  | _ => none }
def framesRow : OpenClaim := { program := "ytildlbmhdiknfaa", sum := "68ba3e330e8b441a9c1e2810f45b5435e1a59d947095e090f3445c9b0db8e1a2", func := "tollbar/tollbarlaw25.Frames", spec := "frames", inPlace := ["internal/abi.NoEscape"], apart := false }
def FramesSaid : Prop := framesRow.holds Try.pinned (OpenSpec.ofChange framesSpec)

/-- ITS FALSE NEIGHBOUR: 'it returns false'. Refute it at one input. -/
def framesWrong : ChangeSpec := { name := "frames", fn := fun _ => fun
  | [d] => { results := [.lit (.bool false)], args := [d] }
  | _ => none }
def FramesWrongFalsely : Prop := framesRow.holds Try.pinned (OpenSpec.ofChange framesWrong)

/-- 'tollbarlaw25.FrameNexts': WHATEVER THE INPUT: true; the input reads as it did. -/
def frameNextsSpec : ChangeSpec := { name := "frameNexts", fn := fun _ => fun
  | [d1, d2] => { results := [.lit (.bool true)], args := [d1, d2] }
  | _ => none }
def frameNextsRow : OpenClaim := { program := "ytildlbmhdiknfaa", sum := "68ba3e330e8b441a9c1e2810f45b5435e1a59d947095e090f3445c9b0db8e1a2", func := "tollbar/tollbarlaw25.FrameNexts", spec := "frameNexts", inPlace := ["internal/abi.NoEscape"], apart := false }
def FrameNextsSaid : Prop := frameNextsRow.holds Try.pinned (OpenSpec.ofChange frameNextsSpec)

/-- ITS FALSE NEIGHBOUR: 'it returns false'. Refute it at one input. -/
def frameNextsWrong : ChangeSpec := { name := "frameNexts", fn := fun _ => fun
  | [d1, d2] => { results := [.lit (.bool false)], args := [d1, d2] }
  | _ => none }
def FrameNextsWrongFalsely : Prop := frameNextsRow.holds Try.pinned (OpenSpec.ofChange frameNextsWrong)

/-- 'tollbarlaw25.FrameBack': WHATEVER THE INPUT: true; the input reads as it did. -/
def frameBackSpec : ChangeSpec := { name := "frameBack", fn := fun _ => fun
  | [d1, d2] => { results := [.lit (.bool true)], args := [d1, d2] }
  | _ => none }
def frameBackRow : OpenClaim := { program := "ytildlbmhdiknfaa", sum := "68ba3e330e8b441a9c1e2810f45b5435e1a59d947095e090f3445c9b0db8e1a2", func := "tollbar/tollbarlaw25.FrameBack", spec := "frameBack", inPlace := ["internal/abi.NoEscape"], apart := false }
def FrameBackSaid : Prop := frameBackRow.holds Try.pinned (OpenSpec.ofChange frameBackSpec)

/-- ITS FALSE NEIGHBOUR: 'it returns false'. Refute it at one input. -/
def frameBackWrong : ChangeSpec := { name := "frameBack", fn := fun _ => fun
  | [d1, d2] => { results := [.lit (.bool false)], args := [d1, d2] }
  | _ => none }
def FrameBackWrongFalsely : Prop := frameBackRow.holds Try.pinned (OpenSpec.ofChange frameBackWrong)

/-- 'tollbarlaw25.FrameParts': WHATEVER THE INPUT: true; the input reads as it did. -/
def framePartsSpec : ChangeSpec := { name := "frameParts", fn := fun _ => fun
  | [d1, d2, d3] => { results := [.lit (.bool true)], args := [d1, d2, d3] }
  | _ => none }
def framePartsRow : OpenClaim := { program := "ytildlbmhdiknfaa", sum := "68ba3e330e8b441a9c1e2810f45b5435e1a59d947095e090f3445c9b0db8e1a2", func := "tollbar/tollbarlaw25.FrameParts", spec := "frameParts", inPlace := ["internal/abi.NoEscape"], apart := false }
def FramePartsSaid : Prop := framePartsRow.holds Try.pinned (OpenSpec.ofChange framePartsSpec)

/-- ITS FALSE NEIGHBOUR: 'it returns false'. Refute it at one input. -/
def framePartsWrong : ChangeSpec := { name := "frameParts", fn := fun _ => fun
  | [d1, d2, d3] => { results := [.lit (.bool false)], args := [d1, d2, d3] }
  | _ => none }
def FramePartsWrongFalsely : Prop := framePartsRow.holds Try.pinned (OpenSpec.ofChange framePartsWrong)

/-- 'tollbarlaw25.FrameLong': WHATEVER THE INPUT: true; the input reads as it did. -/
def frameLongSpec : ChangeSpec := { name := "frameLong", fn := fun _ => fun
  | [d1, d2] => { results := [.lit (.bool true)], args := [d1, d2] }
  | _ => none }
def frameLongRow : OpenClaim := { program := "ytildlbmhdiknfaa", sum := "68ba3e330e8b441a9c1e2810f45b5435e1a59d947095e090f3445c9b0db8e1a2", func := "tollbar/tollbarlaw25.FrameLong", spec := "frameLong", inPlace := ["internal/abi.NoEscape"], apart := false }
def FrameLongSaid : Prop := frameLongRow.holds Try.pinned (OpenSpec.ofChange frameLongSpec)

/-- ITS FALSE NEIGHBOUR: 'it returns false'. Refute it at one input. -/
def frameLongWrong : ChangeSpec := { name := "frameLong", fn := fun _ => fun
  | [d1, d2] => { results := [.lit (.bool false)], args := [d1, d2] }
  | _ => none }
def FrameLongWrongFalsely : Prop := frameLongRow.holds Try.pinned (OpenSpec.ofChange frameLongWrong)

/-- 'tollbarlaw27.Halls': WHATEVER THE INPUT: true; the input reads as it did. -/
def hallsSpec : ChangeSpec := { name := "halls", fn := fun _ => fun
  | [d1, d2, d3, d4] => { results := [.lit (.bool true)], args := [d1, d2, d3, d4] }
  | _ => none }
def hallsRow : OpenClaim := { program := "ytildlbmhdiknfaa", sum := "68ba3e330e8b441a9c1e2810f45b5435e1a59d947095e090f3445c9b0db8e1a2", func := "tollbar/tollbarlaw27.Halls", spec := "halls", apart := false }
def HallsSaid : Prop := hallsRow.holds Try.pinned (OpenSpec.ofChange hallsSpec)

/-- ITS FALSE NEIGHBOUR: 'it returns false'. Refute it at one input. -/
def hallsWrong : ChangeSpec := { name := "halls", fn := fun _ => fun
  | [d1, d2, d3, d4] => { results := [.lit (.bool false)], args := [d1, d2, d3, d4] }
  | _ => none }
def HallsWrongFalsely : Prop := hallsRow.holds Try.pinned (OpenSpec.ofChange hallsWrong)

/-- 'tollbarlaw27.HallPieces': WHATEVER THE INPUT: true; the input reads as it did. -/
def hallPiecesSpec : ChangeSpec := { name := "hallPieces", fn := fun _ => fun
  | [d1, d2] => { results := [.lit (.bool true)], args := [d1, d2] }
  | _ => none }
def hallPiecesRow : OpenClaim := { program := "ytildlbmhdiknfaa", sum := "68ba3e330e8b441a9c1e2810f45b5435e1a59d947095e090f3445c9b0db8e1a2", func := "tollbar/tollbarlaw27.HallPieces", spec := "hallPieces", apart := false }
def HallPiecesSaid : Prop := hallPiecesRow.holds Try.pinned (OpenSpec.ofChange hallPiecesSpec)

/-- ITS FALSE NEIGHBOUR: 'it returns false'. Refute it at one input. -/
def hallPiecesWrong : ChangeSpec := { name := "hallPieces", fn := fun _ => fun
  | [d1, d2] => { results := [.lit (.bool false)], args := [d1, d2] }
  | _ => none }
def HallPiecesWrongFalsely : Prop := hallPiecesRow.holds Try.pinned (OpenSpec.ofChange hallPiecesWrong)

/-- 'tollbarlaw27.HallApart': WHATEVER THE INPUT: true; the input reads as it did. -/
def hallApartSpec : ChangeSpec := { name := "hallApart", fn := fun _ => fun
  | [d1, d2, d3] => { results := [.lit (.bool true)], args := [d1, d2, d3] }
  | _ => none }
def hallApartRow : OpenClaim := { program := "ytildlbmhdiknfaa", sum := "68ba3e330e8b441a9c1e2810f45b5435e1a59d947095e090f3445c9b0db8e1a2", func := "tollbar/tollbarlaw27.HallApart", spec := "hallApart", apart := false }
def HallApartSaid : Prop := hallApartRow.holds Try.pinned (OpenSpec.ofChange hallApartSpec)

/-- ITS FALSE NEIGHBOUR: 'it returns false'. Refute it at one input. -/
def hallApartWrong : ChangeSpec := { name := "hallApart", fn := fun _ => fun
  | [d1, d2, d3] => { results := [.lit (.bool false)], args := [d1, d2, d3] }
  | _ => none }
def HallApartWrongFalsely : Prop := hallApartRow.holds Try.pinned (OpenSpec.ofChange hallApartWrong)

/-- 'tollbarlaw27.HallEnds': WHATEVER THE INPUT: true; the input reads as it did. -/
def hallEndsSpec : ChangeSpec := { name := "hallEnds", fn := fun _ => fun
  | [d] => { results := [.lit (.bool true)], args := [d] }
  | _ => none }
def hallEndsRow : OpenClaim := { program := "ytildlbmhdiknfaa", sum := "68ba3e330e8b441a9c1e2810f45b5435e1a59d947095e090f3445c9b0db8e1a2", func := "tollbar/tollbarlaw27.HallEnds", spec := "hallEnds", apart := false }
def HallEndsSaid : Prop := hallEndsRow.holds Try.pinned (OpenSpec.ofChange hallEndsSpec)

/-- ITS FALSE NEIGHBOUR: 'it returns false'. Refute it at one input. -/
def hallEndsWrong : ChangeSpec := { name := "hallEnds", fn := fun _ => fun
  | [d] => { results := [.lit (.bool false)], args := [d] }
  | _ => none }
def HallEndsWrongFalsely : Prop := hallEndsRow.holds Try.pinned (OpenSpec.ofChange hallEndsWrong)

/- THE SECOND FORM. 'bulk': how many values and letters a reading holds, each counted each time it is reached (what is shared counts as often as it is met; a slice's spare places count too). A statement '..UptoSaid' is the law's where the arguments, and the package variables that the reading takes, are together of bulk at most 1048576: NARROWER than '..Said'. Prove '..Said' where nothing that the law and all that it calls make is longer than what came in: it says more and counts as full. Else prove '..UptoSaid'. A law counts once. -/
mutual
def uptoBulk {H : Type} : DataW H → Nat
  | .lit (.string bytes) => bytes.length + 1
  | .lit _ => 1
  | .nil => 1
  | .ptr d => uptoBulk d + 1
  | .slice elems spare => uptoBulkAll elems + uptoBulkAll spare + 1
  | .agg parts => uptoBulkAll parts + 1
  | .iface _ d => uptoBulk d + 1
  | .map entries => uptoBulkEntries entries + 1
  | .held _ => 1
def uptoBulkAll {H : Type} : List (DataW H) → Nat
  | [] => 0
  | d :: r => uptoBulk d + uptoBulkAll r
def uptoBulkEntries {H : Type} : List (Lit × DataW H) → Nat
  | [] => 0
  | x :: r => uptoBulkEntry x + uptoBulkEntries r
def uptoBulkEntry {H : Type} : Lit × DataW H → Nat
  | (.string bytes, d) => bytes.length + uptoBulk d + 1
  | (_, d) => uptoBulk d + 1
 end
def uptoSmall : (H : Type) → List (DataW H) → Bool := fun _ ds => decide (uptoBulkAll ds ≤ 1048576)
def OpenSpec.upto (s : _root_.Go.ChangeSpec) : _root_.Go.OpenSpec := { _root_.Go.OpenSpec.ofChange s with cond := some uptoSmall }

/-- 'tollbarlaw25.Frames', WHERE WHAT IT READS IS OF BULK AT MOST 1048576: true; the input reads as it did. -/
def framesUptoRow : OpenClaim := { program := "ytildlbmhdiknfaa", sum := "68ba3e330e8b441a9c1e2810f45b5435e1a59d947095e090f3445c9b0db8e1a2", func := "tollbar/tollbarlaw25.Frames", spec := "frames", inPlace := ["internal/abi.NoEscape"], apart := false, narrowed := true }
def FramesUptoSaid : Prop := framesUptoRow.holds Try.pinned (OpenSpec.upto framesSpec)

/-- 'tollbarlaw25.FrameNexts', WHERE WHAT IT READS IS OF BULK AT MOST 1048576: true; the input reads as it did. -/
def frameNextsUptoRow : OpenClaim := { program := "ytildlbmhdiknfaa", sum := "68ba3e330e8b441a9c1e2810f45b5435e1a59d947095e090f3445c9b0db8e1a2", func := "tollbar/tollbarlaw25.FrameNexts", spec := "frameNexts", inPlace := ["internal/abi.NoEscape"], apart := false, narrowed := true }
def FrameNextsUptoSaid : Prop := frameNextsUptoRow.holds Try.pinned (OpenSpec.upto frameNextsSpec)

/-- 'tollbarlaw25.FrameBack', WHERE WHAT IT READS IS OF BULK AT MOST 1048576: true; the input reads as it did. -/
def frameBackUptoRow : OpenClaim := { program := "ytildlbmhdiknfaa", sum := "68ba3e330e8b441a9c1e2810f45b5435e1a59d947095e090f3445c9b0db8e1a2", func := "tollbar/tollbarlaw25.FrameBack", spec := "frameBack", inPlace := ["internal/abi.NoEscape"], apart := false, narrowed := true }
def FrameBackUptoSaid : Prop := frameBackUptoRow.holds Try.pinned (OpenSpec.upto frameBackSpec)

/-- 'tollbarlaw25.FrameParts', WHERE WHAT IT READS IS OF BULK AT MOST 1048576: true; the input reads as it did. -/
def framePartsUptoRow : OpenClaim := { program := "ytildlbmhdiknfaa", sum := "68ba3e330e8b441a9c1e2810f45b5435e1a59d947095e090f3445c9b0db8e1a2", func := "tollbar/tollbarlaw25.FrameParts", spec := "frameParts", inPlace := ["internal/abi.NoEscape"], apart := false, narrowed := true }
def FramePartsUptoSaid : Prop := framePartsUptoRow.holds Try.pinned (OpenSpec.upto framePartsSpec)

/-- 'tollbarlaw25.FrameLong', WHERE WHAT IT READS IS OF BULK AT MOST 1048576: true; the input reads as it did. -/
def frameLongUptoRow : OpenClaim := { program := "ytildlbmhdiknfaa", sum := "68ba3e330e8b441a9c1e2810f45b5435e1a59d947095e090f3445c9b0db8e1a2", func := "tollbar/tollbarlaw25.FrameLong", spec := "frameLong", inPlace := ["internal/abi.NoEscape"], apart := false, narrowed := true }
def FrameLongUptoSaid : Prop := frameLongUptoRow.holds Try.pinned (OpenSpec.upto frameLongSpec)

/-- 'tollbarlaw27.Halls', WHERE WHAT IT READS IS OF BULK AT MOST 1048576: true; the input reads as it did. -/
def hallsUptoRow : OpenClaim := { program := "ytildlbmhdiknfaa", sum := "68ba3e330e8b441a9c1e2810f45b5435e1a59d947095e090f3445c9b0db8e1a2", func := "tollbar/tollbarlaw27.Halls", spec := "halls", apart := false, narrowed := true }
def HallsUptoSaid : Prop := hallsUptoRow.holds Try.pinned (OpenSpec.upto hallsSpec)

/-- 'tollbarlaw27.HallPieces', WHERE WHAT IT READS IS OF BULK AT MOST 1048576: true; the input reads as it did. -/
def hallPiecesUptoRow : OpenClaim := { program := "ytildlbmhdiknfaa", sum := "68ba3e330e8b441a9c1e2810f45b5435e1a59d947095e090f3445c9b0db8e1a2", func := "tollbar/tollbarlaw27.HallPieces", spec := "hallPieces", apart := false, narrowed := true }
def HallPiecesUptoSaid : Prop := hallPiecesUptoRow.holds Try.pinned (OpenSpec.upto hallPiecesSpec)

/-- 'tollbarlaw27.HallApart', WHERE WHAT IT READS IS OF BULK AT MOST 1048576: true; the input reads as it did. -/
def hallApartUptoRow : OpenClaim := { program := "ytildlbmhdiknfaa", sum := "68ba3e330e8b441a9c1e2810f45b5435e1a59d947095e090f3445c9b0db8e1a2", func := "tollbar/tollbarlaw27.HallApart", spec := "hallApart", apart := false, narrowed := true }
def HallApartUptoSaid : Prop := hallApartUptoRow.holds Try.pinned (OpenSpec.upto hallApartSpec)

/-- 'tollbarlaw27.HallEnds', WHERE WHAT IT READS IS OF BULK AT MOST 1048576: true; the input reads as it did. -/
def hallEndsUptoRow : OpenClaim := { program := "ytildlbmhdiknfaa", sum := "68ba3e330e8b441a9c1e2810f45b5435e1a59d947095e090f3445c9b0db8e1a2", func := "tollbar/tollbarlaw27.HallEnds", spec := "hallEnds", apart := false, narrowed := true }
def HallEndsUptoSaid : Prop := hallEndsUptoRow.holds Try.pinned (OpenSpec.upto hallEndsSpec)

end Rows
end Go.Proofs.Ytildlbmhdiknfaa
