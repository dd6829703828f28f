/-
  No cell of these rows narrows 'for every input' (looked for: loops, veiled, ifaces, maps, wideKeys, modest, calm, conditions, laid).
  DERIVED. THE GIVEN ROWS OF THIS SEAT. 11 by the template 'for every input the law returns true; each argument reads behind the call as it read before'; 0 by the template 'total and deterministic' (their statements: YtikblicmnfnomaaTotals.lean).
  GIVEN WITH THE SEED: the statements are not yours to turn. If you find one false, say at which input.
  Laid BY PROGRAM, IN A SANDBOX (cutbox-rows.mjs): the forced cells as the released guide's own fill.sh prints them over the translation 430db072931d8cd2… (all of the seat's roots in one cut). By AI agents, Wed Nov 11 2026. No macro, syntax, notation, axiom, sorry.
-/
import Derived.Test.YtikblicmnfnomaaChecked
import GoSem.Claim
import GoSem.ClaimJoined
import GoSem.ClaimMapViews
import Derived.JoinedTies
import Derived.KernelRfl
namespace Go.Proofs.Ytikblicmnfnomaa
/- THE CELL 'sum', in the pinned program and in every row, IS THE sha256 OF THE DUMP (.gsa) THAT YtikblicmnfnomaaProg.lean LOADS. Nothing in Lean hashes anything: it is a label: what it is worth is what the hold of that sum in a sandbox is worth. -/
noncomputable def Try.pinned : Pinned := { name := "ytikblicmnfnomaa", sum := "430db072931d8cd2cdb5137ef42dac26de80069e1df111ce1673b31497e9b9bd", checked := Try.checked }
namespace Rows
def none {H : Type} : Left H := { results := [], args := [] }

/-- 'tollbarlaw3.Words': WHATEVER THE INPUT: true; the input reads as it did. -/
def wordsSpec : ChangeSpec := { name := "words", fn := fun _ => fun
  | [d] => { results := [.lit (.bool true)], args := [d] }
  | _ => none }
def wordsRow : OpenClaim := { program := "ytikblicmnfnomaa", sum := "430db072931d8cd2cdb5137ef42dac26de80069e1df111ce1673b31497e9b9bd", func := "tollbar/tollbarlaw3.Words", spec := "words", inPlace := ["internal/abi.NoEscape"], apart := false }
def WordsSaid : Prop := wordsRow.holds Try.pinned (OpenSpec.ofChange wordsSpec)

/-- ITS FALSE NEIGHBOUR: 'it returns false'. Refute it at one input. -/
def wordsWrong : ChangeSpec := { name := "words", fn := fun _ => fun
  | [d] => { results := [.lit (.bool false)], args := [d] }
  | _ => none }
def WordsWrongFalsely : Prop := wordsRow.holds Try.pinned (OpenSpec.ofChange wordsWrong)

/-- 'tollbarlaw3.WordGets': WHATEVER THE INPUT: true; the input reads as it did. -/
def wordGetsSpec : ChangeSpec := { name := "wordGets", fn := fun _ => fun
  | [d1, d2] => { results := [.lit (.bool true)], args := [d1, d2] }
  | _ => none }
def wordGetsRow : OpenClaim := { program := "ytikblicmnfnomaa", sum := "430db072931d8cd2cdb5137ef42dac26de80069e1df111ce1673b31497e9b9bd", func := "tollbar/tollbarlaw3.WordGets", spec := "wordGets", inPlace := ["internal/abi.NoEscape"], apart := false }
def WordGetsSaid : Prop := wordGetsRow.holds Try.pinned (OpenSpec.ofChange wordGetsSpec)

/-- ITS FALSE NEIGHBOUR: 'it returns false'. Refute it at one input. -/
def wordGetsWrong : ChangeSpec := { name := "wordGets", fn := fun _ => fun
  | [d1, d2] => { results := [.lit (.bool false)], args := [d1, d2] }
  | _ => none }
def WordGetsWrongFalsely : Prop := wordGetsRow.holds Try.pinned (OpenSpec.ofChange wordGetsWrong)

/-- 'tollbarlaw3.WordLists': WHATEVER THE INPUT: true; the input reads as it did. -/
def wordListsSpec : ChangeSpec := { name := "wordLists", fn := fun _ => fun
  | [d] => { results := [.lit (.bool true)], args := [d] }
  | _ => none }
def wordListsRow : OpenClaim := { program := "ytikblicmnfnomaa", sum := "430db072931d8cd2cdb5137ef42dac26de80069e1df111ce1673b31497e9b9bd", func := "tollbar/tollbarlaw3.WordLists", spec := "wordLists", inPlace := ["internal/abi.NoEscape"], apart := false }
def WordListsSaid : Prop := wordListsRow.holds Try.pinned (OpenSpec.ofChange wordListsSpec)

/-- ITS FALSE NEIGHBOUR: 'it returns false'. Refute it at one input. -/
def wordListsWrong : ChangeSpec := { name := "wordLists", fn := fun _ => fun
  | [d] => { results := [.lit (.bool false)], args := [d] }
  | _ => none }
def WordListsWrongFalsely : Prop := wordListsRow.holds Try.pinned (OpenSpec.ofChange wordListsWrong)

/-- 'tollbarlaw3.WordBack': WHATEVER THE INPUT: true; the input reads as it did. -/
def wordBackSpec : ChangeSpec := { name := "wordBack", fn := fun _ => fun
  | [d] => { results := [.lit (.bool true)], args := [d] }
  | _ => none }
def wordBackRow : OpenClaim := { program := "ytikblicmnfnomaa", sum := "430db072931d8cd2cdb5137ef42dac26de80069e1df111ce1673b31497e9b9bd", func := "tollbar/tollbarlaw3.WordBack", spec := "wordBack", inPlace := ["internal/abi.NoEscape"], apart := false }
def WordBackSaid : Prop := wordBackRow.holds Try.pinned (OpenSpec.ofChange wordBackSpec)

/-- ITS FALSE NEIGHBOUR: 'it returns false'. Refute it at one input. -/
def wordBackWrong : ChangeSpec := { name := "wordBack", fn := fun _ => fun
  | [d] => { results := [.lit (.bool false)], args := [d] }
  | _ => none }
def WordBackWrongFalsely : Prop := wordBackRow.holds Try.pinned (OpenSpec.ofChange wordBackWrong)

/-- 'tollbarlaw3.WordForms': WHATEVER THE INPUT: true; the input reads as it did. -/
def wordFormsSpec : ChangeSpec := { name := "wordForms", fn := fun _ => fun
  | [d] => { results := [.lit (.bool true)], args := [d] }
  | _ => none }
def wordFormsRow : OpenClaim := { program := "ytikblicmnfnomaa", sum := "430db072931d8cd2cdb5137ef42dac26de80069e1df111ce1673b31497e9b9bd", func := "tollbar/tollbarlaw3.WordForms", spec := "wordForms", inPlace := ["internal/abi.NoEscape"], apart := false }
def WordFormsSaid : Prop := wordFormsRow.holds Try.pinned (OpenSpec.ofChange wordFormsSpec)

/-- ITS FALSE NEIGHBOUR: 'it returns false'. Refute it at one input. -/
def wordFormsWrong : ChangeSpec := { name := "wordForms", fn := fun _ => fun
  | [d] => { results := [.lit (.bool false)], args := [d] }
  | _ => none }
def WordFormsWrongFalsely : Prop := wordFormsRow.holds Try.pinned (OpenSpec.ofChange wordFormsWrong)

/-- 'tollbarlaw3.WordJoins': WHATEVER THE INPUT: true; the input reads as it did. -/
def wordJoinsSpec : ChangeSpec := { name := "wordJoins", fn := fun _ => fun
  | [d1, d2] => { results := [.lit (.bool true)], args := [d1, d2] }
  | _ => none }
def wordJoinsRow : OpenClaim := { program := "ytikblicmnfnomaa", sum := "430db072931d8cd2cdb5137ef42dac26de80069e1df111ce1673b31497e9b9bd", func := "tollbar/tollbarlaw3.WordJoins", spec := "wordJoins", inPlace := ["internal/abi.NoEscape"], apart := false }
def WordJoinsSaid : Prop := wordJoinsRow.holds Try.pinned (OpenSpec.ofChange wordJoinsSpec)

/-- ITS FALSE NEIGHBOUR: 'it returns false'. Refute it at one input. -/
def wordJoinsWrong : ChangeSpec := { name := "wordJoins", fn := fun _ => fun
  | [d1, d2] => { results := [.lit (.bool false)], args := [d1, d2] }
  | _ => none }
def WordJoinsWrongFalsely : Prop := wordJoinsRow.holds Try.pinned (OpenSpec.ofChange wordJoinsWrong)

/-- 'tollbarlaw22.Asks': WHATEVER THE INPUT: true; the input reads as it did. -/
def asksSpec : ChangeSpec := { name := "asks", fn := fun _ => fun
  | [d] => { results := [.lit (.bool true)], args := [d] }
  | _ => none }
def asksRow : OpenClaim := { program := "ytikblicmnfnomaa", sum := "430db072931d8cd2cdb5137ef42dac26de80069e1df111ce1673b31497e9b9bd", func := "tollbar/tollbarlaw22.Asks", spec := "asks", inPlace := ["internal/abi.NoEscape"], apart := false }
def AsksSaid : Prop := asksRow.holds Try.pinned (OpenSpec.ofChange asksSpec)

/-- ITS FALSE NEIGHBOUR: 'it returns false'. Refute it at one input. -/
def asksWrong : ChangeSpec := { name := "asks", fn := fun _ => fun
  | [d] => { results := [.lit (.bool false)], args := [d] }
  | _ => none }
def AsksWrongFalsely : Prop := asksRow.holds Try.pinned (OpenSpec.ofChange asksWrong)

/-- 'tollbarlaw22.AskReads': WHATEVER THE INPUT: true; the input reads as it did. -/
def askReadsSpec : ChangeSpec := { name := "askReads", fn := fun _ => fun
  | [d] => { results := [.lit (.bool true)], args := [d] }
  | _ => none }
def askReadsRow : OpenClaim := { program := "ytikblicmnfnomaa", sum := "430db072931d8cd2cdb5137ef42dac26de80069e1df111ce1673b31497e9b9bd", func := "tollbar/tollbarlaw22.AskReads", spec := "askReads", inPlace := ["internal/abi.NoEscape"], apart := false }
def AskReadsSaid : Prop := askReadsRow.holds Try.pinned (OpenSpec.ofChange askReadsSpec)

/-- ITS FALSE NEIGHBOUR: 'it returns false'. Refute it at one input. -/
def askReadsWrong : ChangeSpec := { name := "askReads", fn := fun _ => fun
  | [d] => { results := [.lit (.bool false)], args := [d] }
  | _ => none }
def AskReadsWrongFalsely : Prop := askReadsRow.holds Try.pinned (OpenSpec.ofChange askReadsWrong)

/-- 'tollbarlaw22.AskBack': WHATEVER THE INPUT: true; the input reads as it did. -/
def askBackSpec : ChangeSpec := { name := "askBack", fn := fun _ => fun
  | [d] => { results := [.lit (.bool true)], args := [d] }
  | _ => none }
def askBackRow : OpenClaim := { program := "ytikblicmnfnomaa", sum := "430db072931d8cd2cdb5137ef42dac26de80069e1df111ce1673b31497e9b9bd", func := "tollbar/tollbarlaw22.AskBack", spec := "askBack", inPlace := ["internal/abi.NoEscape"], apart := false }
def AskBackSaid : Prop := askBackRow.holds Try.pinned (OpenSpec.ofChange askBackSpec)

/-- ITS FALSE NEIGHBOUR: 'it returns false'. Refute it at one input. -/
def askBackWrong : ChangeSpec := { name := "askBack", fn := fun _ => fun
  | [d] => { results := [.lit (.bool false)], args := [d] }
  | _ => none }
def AskBackWrongFalsely : Prop := askBackRow.holds Try.pinned (OpenSpec.ofChange askBackWrong)

/-- 'tollbarlaw22.AskForms': WHATEVER THE INPUT: true; the input reads as it did. -/
def askFormsSpec : ChangeSpec := { name := "askForms", fn := fun _ => fun
  | [d1, d2] => { results := [.lit (.bool true)], args := [d1, d2] }
  | _ => none }
def askFormsRow : OpenClaim := { program := "ytikblicmnfnomaa", sum := "430db072931d8cd2cdb5137ef42dac26de80069e1df111ce1673b31497e9b9bd", func := "tollbar/tollbarlaw22.AskForms", spec := "askForms", inPlace := ["internal/abi.NoEscape"], apart := false }
def AskFormsSaid : Prop := askFormsRow.holds Try.pinned (OpenSpec.ofChange askFormsSpec)

/-- ITS FALSE NEIGHBOUR: 'it returns false'. Refute it at one input. -/
def askFormsWrong : ChangeSpec := { name := "askForms", fn := fun _ => fun
  | [d1, d2] => { results := [.lit (.bool false)], args := [d1, d2] }
  | _ => none }
def AskFormsWrongFalsely : Prop := askFormsRow.holds Try.pinned (OpenSpec.ofChange askFormsWrong)

/-- 'tollbarlaw22.AskApart': WHATEVER THE INPUT: true; the input reads as it did. -/
def askApartSpec : ChangeSpec := { name := "askApart", fn := fun _ => fun
  | [d1, d2] => { results := [.lit (.bool true)], args := [d1, d2] }
  | _ => none }
def askApartRow : OpenClaim := { program := "ytikblicmnfnomaa", sum := "430db072931d8cd2cdb5137ef42dac26de80069e1df111ce1673b31497e9b9bd", func := "tollbar/tollbarlaw22.AskApart", spec := "askApart", inPlace := ["internal/abi.NoEscape"], apart := false }
def AskApartSaid : Prop := askApartRow.holds Try.pinned (OpenSpec.ofChange askApartSpec)

/-- ITS FALSE NEIGHBOUR: 'it returns false'. Refute it at one input. -/
def askApartWrong : ChangeSpec := { name := "askApart", fn := fun _ => fun
  | [d1, d2] => { results := [.lit (.bool false)], args := [d1, d2] }
  | _ => none }
def AskApartWrongFalsely : Prop := askApartRow.holds Try.pinned (OpenSpec.ofChange askApartWrong)

/- THE SECOND FORM. 'bulk': how many values and letters a reading holds, each counted each time it is reached (what is shared counts as often as it is met; a slice's spare places count too). A statement '..UptoSaid' is the law's where the arguments, and the package variables that the reading takes, are together of bulk at most 1048576: NARROWER than '..Said'. Prove '..Said' where nothing that the law and all that it calls make is longer than what came in: it says more and counts as full. Else prove '..UptoSaid'. A law counts once. -/
mutual
def uptoBulk {H : Type} : DataW H → Nat
  | .lit (.string bytes) => bytes.length + 1
  | .lit _ => 1
  | .nil => 1
  | .ptr d => uptoBulk d + 1
  | .slice elems spare => uptoBulkAll elems + uptoBulkAll spare + 1
  | .agg parts => uptoBulkAll parts + 1
  | .iface _ d => uptoBulk d + 1
  | .map entries => uptoBulkEntries entries + 1
  | .held _ => 1
def uptoBulkAll {H : Type} : List (DataW H) → Nat
  | [] => 0
  | d :: r => uptoBulk d + uptoBulkAll r
def uptoBulkEntries {H : Type} : List (Lit × DataW H) → Nat
  | [] => 0
  | x :: r => uptoBulkEntry x + uptoBulkEntries r
def uptoBulkEntry {H : Type} : Lit × DataW H → Nat
  | (.string bytes, d) => bytes.length + uptoBulk d + 1
  | (_, d) => uptoBulk d + 1
 end
def uptoSmall : (H : Type) → List (DataW H) → Bool := fun _ ds => decide (uptoBulkAll ds ≤ 1048576)
def OpenSpec.upto (s : _root_.Go.ChangeSpec) : _root_.Go.OpenSpec := { _root_.Go.OpenSpec.ofChange s with cond := some uptoSmall }

/-- 'tollbarlaw3.Words', WHERE WHAT IT READS IS OF BULK AT MOST 1048576: true; the input reads as it did. -/
def wordsUptoRow : OpenClaim := { program := "ytikblicmnfnomaa", sum := "430db072931d8cd2cdb5137ef42dac26de80069e1df111ce1673b31497e9b9bd", func := "tollbar/tollbarlaw3.Words", spec := "words", inPlace := ["internal/abi.NoEscape"], apart := false, narrowed := true }
def WordsUptoSaid : Prop := wordsUptoRow.holds Try.pinned (OpenSpec.upto wordsSpec)

/-- 'tollbarlaw3.WordGets', WHERE WHAT IT READS IS OF BULK AT MOST 1048576: true; the input reads as it did. -/
def wordGetsUptoRow : OpenClaim := { program := "ytikblicmnfnomaa", sum := "430db072931d8cd2cdb5137ef42dac26de80069e1df111ce1673b31497e9b9bd", func := "tollbar/tollbarlaw3.WordGets", spec := "wordGets", inPlace := ["internal/abi.NoEscape"], apart := false, narrowed := true }
def WordGetsUptoSaid : Prop := wordGetsUptoRow.holds Try.pinned (OpenSpec.upto wordGetsSpec)

/-- 'tollbarlaw3.WordLists', WHERE WHAT IT READS IS OF BULK AT MOST 1048576: true; the input reads as it did. -/
def wordListsUptoRow : OpenClaim := { program := "ytikblicmnfnomaa", sum := "430db072931d8cd2cdb5137ef42dac26de80069e1df111ce1673b31497e9b9bd", func := "tollbar/tollbarlaw3.WordLists", spec := "wordLists", inPlace := ["internal/abi.NoEscape"], apart := false, narrowed := true }
def WordListsUptoSaid : Prop := wordListsUptoRow.holds Try.pinned (OpenSpec.upto wordListsSpec)

/-- 'tollbarlaw3.WordBack', WHERE WHAT IT READS IS OF BULK AT MOST 1048576: true; the input reads as it did. -/
def wordBackUptoRow : OpenClaim := { program := "ytikblicmnfnomaa", sum := "430db072931d8cd2cdb5137ef42dac26de80069e1df111ce1673b31497e9b9bd", func := "tollbar/tollbarlaw3.WordBack", spec := "wordBack", inPlace := ["internal/abi.NoEscape"], apart := false, narrowed := true }
def WordBackUptoSaid : Prop := wordBackUptoRow.holds Try.pinned (OpenSpec.upto wordBackSpec)

/-- 'tollbarlaw3.WordForms', WHERE WHAT IT READS IS OF BULK AT MOST 1048576: true; the input reads as it did. -/
def wordFormsUptoRow : OpenClaim := { program := "ytikblicmnfnomaa", sum := "430db072931d8cd2cdb5137ef42dac26de80069e1df111ce1673b31497e9b9bd", func := "tollbar/tollbarlaw3.WordForms", spec := "wordForms", inPlace := ["internal/abi.NoEscape"], apart := false, narrowed := true }
def WordFormsUptoSaid : Prop := wordFormsUptoRow.holds Try.pinned (OpenSpec.upto wordFormsSpec)

/-- 'tollbarlaw3.WordJoins', WHERE WHAT IT READS IS OF BULK AT MOST 1048576: true; the input reads as it did. -/
def wordJoinsUptoRow : OpenClaim := { program := "ytikblicmnfnomaa", sum := "430db072931d8cd2cdb5137ef42dac26de80069e1df111ce1673b31497e9b9bd", func := "tollbar/tollbarlaw3.WordJoins", spec := "wordJoins", inPlace := ["internal/abi.NoEscape"], apart := false, narrowed := true }
def WordJoinsUptoSaid : Prop := wordJoinsUptoRow.holds Try.pinned (OpenSpec.upto wordJoinsSpec)

/-- 'tollbarlaw22.Asks', WHERE WHAT IT READS IS OF BULK AT MOST 1048576: true; the input reads as it did. -/
def asksUptoRow : OpenClaim := { program := "ytikblicmnfnomaa", sum := "430db072931d8cd2cdb5137ef42dac26de80069e1df111ce1673b31497e9b9bd", func := "tollbar/tollbarlaw22.Asks", spec := "asks", inPlace := ["internal/abi.NoEscape"], apart := false, narrowed := true }
def AsksUptoSaid : Prop := asksUptoRow.holds Try.pinned (OpenSpec.upto asksSpec)

/-- 'tollbarlaw22.AskReads', WHERE WHAT IT READS IS OF BULK AT MOST 1048576: true; the input reads as it did. -/
def askReadsUptoRow : OpenClaim := { program := "ytikblicmnfnomaa", sum := "430db072931d8cd2cdb5137ef42dac26de80069e1df111ce1673b31497e9b9bd", func := "tollbar/tollbarlaw22.AskReads", spec := "askReads", inPlace := ["internal/abi.NoEscape"], apart := false, narrowed := true }
def AskReadsUptoSaid : Prop := askReadsUptoRow.holds Try.pinned (OpenSpec.upto askReadsSpec)

/-- 'tollbarlaw22.AskBack', WHERE WHAT IT READS IS OF BULK AT MOST 1048576: true; the input reads as it did. -/
def askBackUptoRow : OpenClaim := { program := "ytikblicmnfnomaa", sum := "430db072931d8cd2cdb5137ef42dac26de80069e1df111ce1673b31497e9b9bd", func := "tollbar/tollbarlaw22.AskBack", spec := "askBack", inPlace := ["internal/abi.NoEscape"], apart := false, narrowed := true }
def AskBackUptoSaid : Prop := askBackUptoRow.holds Try.pinned (OpenSpec.upto askBackSpec)

/-- 'tollbarlaw22.AskForms', WHERE WHAT IT READS IS OF BULK AT MOST 1048576: true; the input reads as it did. -/
def askFormsUptoRow : OpenClaim := { program := "ytikblicmnfnomaa", sum := "430db072931d8cd2cdb5137ef42dac26de80069e1df111ce1673b31497e9b9bd", func := "tollbar/tollbarlaw22.AskForms", spec := "askForms", inPlace := ["internal/abi.NoEscape"], apart := false, narrowed := true }
def AskFormsUptoSaid : Prop := askFormsUptoRow.holds Try.pinned (OpenSpec.upto askFormsSpec)

/-- 'tollbarlaw22.AskApart', WHERE WHAT IT READS IS OF BULK AT MOST 1048576: true; the input reads as it did. -/
def askApartUptoRow : OpenClaim := { program := "ytikblicmnfnomaa", sum := "430db072931d8cd2cdb5137ef42dac26de80069e1df111ce1673b31497e9b9bd", func := "tollbar/tollbarlaw22.AskApart", spec := "askApart", inPlace := ["internal/abi.NoEscape"], apart := false, narrowed := true }
def AskApartUptoSaid : Prop := askApartUptoRow.holds Try.pinned (OpenSpec.upto askApartSpec)

end Rows
end Go.Proofs.Ytikblicmnfnomaa
