/-
  No cell of these rows narrows 'for every input' (looked for: loops, veiled, ifaces, maps, wideKeys, modest, calm, conditions, laid).
  DERIVED. THE GIVEN ROWS OF THIS SEAT. 10 by the template 'for every input the law returns true; each argument reads behind the call as it read before'; 0 by the template 'total and deterministic' (their statements: YtpkdanfiplolhaaTotals.lean).
  GIVEN WITH THE SEED: the statements are not yours to turn. If you find one false, say at which input.
  Laid BY PROGRAM, IN A SANDBOX (cutbox-rows.mjs): the forced cells as the released guide's own fill.sh prints them over the translation 29595d992e55a61f… (all of the seat's roots in one cut). By AI agents, Wed Nov 11 2026. No macro, syntax, notation, axiom, sorry.
-/
import Derived.Test.YtpkdanfiplolhaaChecked
import GoSem.Claim
import GoSem.ClaimJoined
import GoSem.ClaimMapViews
import Derived.JoinedTies
import Derived.KernelRfl
namespace Go.Proofs.Ytpkdanfiplolhaa
/- THE CELL 'sum', in the pinned program and in every row, IS THE sha256 OF THE DUMP (.gsa) THAT YtpkdanfiplolhaaProg.lean LOADS. Nothing in Lean hashes anything: it is a label: what it is worth is what the hold of that sum in a sandbox is worth. -/
noncomputable def Try.pinned : Pinned := { name := "ytpkdanfiplolhaa", sum := "29595d992e55a61fcc91d0d023c2d7c361d9fa0e95dcde67c6979ae486abbd4b", checked := Try.checked }
namespace Rows
def none {H : Type} : Left H := { results := [], args := [] }

/-- 'switchyardlaw01.WrapWords': WHATEVER THE INPUT: true; the input reads as it did. -/
def wrapWordsSpec : ChangeSpec := { name := "wrapWords", fn := fun _ => fun
  | [d1, d2] => { results := [.lit (.bool true)], args := [d1, d2] }
  | _ => none }
def wrapWordsRow : OpenClaim := { program := "ytpkdanfiplolhaa", sum := "29595d992e55a61fcc91d0d023c2d7c361d9fa0e95dcde67c6979ae486abbd4b", func := "switchyard/switchyardlaw01.WrapWords", spec := "wrapWords", apart := false }
def WrapWordsSaid : Prop := wrapWordsRow.holds Try.pinned (OpenSpec.ofChange wrapWordsSpec)

/-- ITS FALSE NEIGHBOUR: 'it returns false'. Refute it at one input. -/
def wrapWordsWrong : ChangeSpec := { name := "wrapWords", fn := fun _ => fun
  | [d1, d2] => { results := [.lit (.bool false)], args := [d1, d2] }
  | _ => none }
def WrapWordsWrongFalsely : Prop := wrapWordsRow.holds Try.pinned (OpenSpec.ofChange wrapWordsWrong)

/-- 'switchyardlaw01.WrapIn': WHATEVER THE INPUT: true; the input reads as it did. -/
def wrapInSpec : ChangeSpec := { name := "wrapIn", fn := fun _ => fun
  | [d1, d2, d3] => { results := [.lit (.bool true)], args := [d1, d2, d3] }
  | _ => none }
def wrapInRow : OpenClaim := { program := "ytpkdanfiplolhaa", sum := "29595d992e55a61fcc91d0d023c2d7c361d9fa0e95dcde67c6979ae486abbd4b", func := "switchyard/switchyardlaw01.WrapIn", spec := "wrapIn", apart := false }
def WrapInSaid : Prop := wrapInRow.holds Try.pinned (OpenSpec.ofChange wrapInSpec)

/-- ITS FALSE NEIGHBOUR: 'it returns false'. Refute it at one input. -/
def wrapInWrong : ChangeSpec := { name := "wrapIn", fn := fun _ => fun
  | [d1, d2, d3] => { results := [.lit (.bool false)], args := [d1, d2, d3] }
  | _ => none }
def WrapInWrongFalsely : Prop := wrapInRow.holds Try.pinned (OpenSpec.ofChange wrapInWrong)

/-- 'switchyardlaw01.WrapDigits': WHATEVER THE INPUT: true; the input reads as it did. -/
def wrapDigitsSpec : ChangeSpec := { name := "wrapDigits", fn := fun _ => fun
  | [d1, d2] => { results := [.lit (.bool true)], args := [d1, d2] }
  | _ => none }
def wrapDigitsRow : OpenClaim := { program := "ytpkdanfiplolhaa", sum := "29595d992e55a61fcc91d0d023c2d7c361d9fa0e95dcde67c6979ae486abbd4b", func := "switchyard/switchyardlaw01.WrapDigits", spec := "wrapDigits", apart := false }
def WrapDigitsSaid : Prop := wrapDigitsRow.holds Try.pinned (OpenSpec.ofChange wrapDigitsSpec)

/-- ITS FALSE NEIGHBOUR: 'it returns false'. Refute it at one input. -/
def wrapDigitsWrong : ChangeSpec := { name := "wrapDigits", fn := fun _ => fun
  | [d1, d2] => { results := [.lit (.bool false)], args := [d1, d2] }
  | _ => none }
def WrapDigitsWrongFalsely : Prop := wrapDigitsRow.holds Try.pinned (OpenSpec.ofChange wrapDigitsWrong)

/-- 'switchyardlaw01.WrapBack': WHATEVER THE INPUT: true; the input reads as it did. -/
def wrapBackSpec : ChangeSpec := { name := "wrapBack", fn := fun _ => fun
  | [d1, d2, d3] => { results := [.lit (.bool true)], args := [d1, d2, d3] }
  | _ => none }
def wrapBackRow : OpenClaim := { program := "ytpkdanfiplolhaa", sum := "29595d992e55a61fcc91d0d023c2d7c361d9fa0e95dcde67c6979ae486abbd4b", func := "switchyard/switchyardlaw01.WrapBack", spec := "wrapBack", apart := false }
def WrapBackSaid : Prop := wrapBackRow.holds Try.pinned (OpenSpec.ofChange wrapBackSpec)

/-- ITS FALSE NEIGHBOUR: 'it returns false'. Refute it at one input. -/
def wrapBackWrong : ChangeSpec := { name := "wrapBack", fn := fun _ => fun
  | [d1, d2, d3] => { results := [.lit (.bool false)], args := [d1, d2, d3] }
  | _ => none }
def WrapBackWrongFalsely : Prop := wrapBackRow.holds Try.pinned (OpenSpec.ofChange wrapBackWrong)

/-- 'switchyardlaw26.HeadWrites': WHATEVER THE INPUT: true; the input reads as it did. -/
def headWritesSpec : ChangeSpec := { name := "headWrites", fn := fun _ => fun
  | [d1, d2] => { results := [.lit (.bool true)], args := [d1, d2] }
  | _ => none }
def headWritesRow : OpenClaim := { program := "ytpkdanfiplolhaa", sum := "29595d992e55a61fcc91d0d023c2d7c361d9fa0e95dcde67c6979ae486abbd4b", func := "switchyard/switchyardlaw26.HeadWrites", spec := "headWrites", unfollowed := true, recurses := true, apart := false }
def HeadWritesSaid : Prop := headWritesRow.holds Try.pinned (OpenSpec.ofChange headWritesSpec)

/-- ITS FALSE NEIGHBOUR: 'it returns false'. Refute it at one input. -/
def headWritesWrong : ChangeSpec := { name := "headWrites", fn := fun _ => fun
  | [d1, d2] => { results := [.lit (.bool false)], args := [d1, d2] }
  | _ => none }
def HeadWritesWrongFalsely : Prop := headWritesRow.holds Try.pinned (OpenSpec.ofChange headWritesWrong)

/-- 'switchyardlaw26.HeadReads': WHATEVER THE INPUT: true; the input reads as it did. -/
def headReadsSpec : ChangeSpec := { name := "headReads", fn := fun _ => fun
  | [d] => { results := [.lit (.bool true)], args := [d] }
  | _ => none }
def headReadsRow : OpenClaim := { program := "ytpkdanfiplolhaa", sum := "29595d992e55a61fcc91d0d023c2d7c361d9fa0e95dcde67c6979ae486abbd4b", func := "switchyard/switchyardlaw26.HeadReads", spec := "headReads", unfollowed := true, recurses := true, apart := false }
def HeadReadsSaid : Prop := headReadsRow.holds Try.pinned (OpenSpec.ofChange headReadsSpec)

/-- ITS FALSE NEIGHBOUR: 'it returns false'. Refute it at one input. -/
def headReadsWrong : ChangeSpec := { name := "headReads", fn := fun _ => fun
  | [d] => { results := [.lit (.bool false)], args := [d] }
  | _ => none }
def HeadReadsWrongFalsely : Prop := headReadsRow.holds Try.pinned (OpenSpec.ofChange headReadsWrong)

/-- 'switchyardlaw27.NoteWrites': WHATEVER THE INPUT: true; the input reads as it did. -/
def noteWritesSpec : ChangeSpec := { name := "noteWrites", fn := fun _ => fun
  | [d1, d2] => { results := [.lit (.bool true)], args := [d1, d2] }
  | _ => none }
def noteWritesRow : OpenClaim := { program := "ytpkdanfiplolhaa", sum := "29595d992e55a61fcc91d0d023c2d7c361d9fa0e95dcde67c6979ae486abbd4b", func := "switchyard/switchyardlaw27.NoteWrites", spec := "noteWrites", apart := false }
def NoteWritesSaid : Prop := noteWritesRow.holds Try.pinned (OpenSpec.ofChange noteWritesSpec)

/-- ITS FALSE NEIGHBOUR: 'it returns false'. Refute it at one input. -/
def noteWritesWrong : ChangeSpec := { name := "noteWrites", fn := fun _ => fun
  | [d1, d2] => { results := [.lit (.bool false)], args := [d1, d2] }
  | _ => none }
def NoteWritesWrongFalsely : Prop := noteWritesRow.holds Try.pinned (OpenSpec.ofChange noteWritesWrong)

/-- 'switchyardlaw26.HeadBack': WHATEVER THE INPUT: true; the input reads as it did. -/
def headBackSpec : ChangeSpec := { name := "headBack", fn := fun _ => fun
  | [d1, d2, d3] => { results := [.lit (.bool true)], args := [d1, d2, d3] }
  | _ => none }
def headBackRow : OpenClaim := { program := "ytpkdanfiplolhaa", sum := "29595d992e55a61fcc91d0d023c2d7c361d9fa0e95dcde67c6979ae486abbd4b", func := "switchyard/switchyardlaw26.HeadBack", spec := "headBack", unfollowed := true, recurses := true, apart := false }
def HeadBackSaid : Prop := headBackRow.holds Try.pinned (OpenSpec.ofChange headBackSpec)

/-- ITS FALSE NEIGHBOUR: 'it returns false'. Refute it at one input. -/
def headBackWrong : ChangeSpec := { name := "headBack", fn := fun _ => fun
  | [d1, d2, d3] => { results := [.lit (.bool false)], args := [d1, d2, d3] }
  | _ => none }
def HeadBackWrongFalsely : Prop := headBackRow.holds Try.pinned (OpenSpec.ofChange headBackWrong)

/-- 'switchyardlaw27.NoteReads': WHATEVER THE INPUT: true; the input reads as it did. -/
def noteReadsSpec : ChangeSpec := { name := "noteReads", fn := fun _ => fun
  | [d] => { results := [.lit (.bool true)], args := [d] }
  | _ => none }
def noteReadsRow : OpenClaim := { program := "ytpkdanfiplolhaa", sum := "29595d992e55a61fcc91d0d023c2d7c361d9fa0e95dcde67c6979ae486abbd4b", func := "switchyard/switchyardlaw27.NoteReads", spec := "noteReads", unfollowed := true, recurses := true, apart := false }
def NoteReadsSaid : Prop := noteReadsRow.holds Try.pinned (OpenSpec.ofChange noteReadsSpec)

/-- ITS FALSE NEIGHBOUR: 'it returns false'. Refute it at one input. -/
def noteReadsWrong : ChangeSpec := { name := "noteReads", fn := fun _ => fun
  | [d] => { results := [.lit (.bool false)], args := [d] }
  | _ => none }
def NoteReadsWrongFalsely : Prop := noteReadsRow.holds Try.pinned (OpenSpec.ofChange noteReadsWrong)

/-- 'switchyardlaw27.NoteBack': WHATEVER THE INPUT: true; the input reads as it did. -/
def noteBackSpec : ChangeSpec := { name := "noteBack", fn := fun _ => fun
  | [d1, d2, d3] => { results := [.lit (.bool true)], args := [d1, d2, d3] }
  | _ => none }
def noteBackRow : OpenClaim := { program := "ytpkdanfiplolhaa", sum := "29595d992e55a61fcc91d0d023c2d7c361d9fa0e95dcde67c6979ae486abbd4b", func := "switchyard/switchyardlaw27.NoteBack", spec := "noteBack", unfollowed := true, recurses := true, apart := false }
def NoteBackSaid : Prop := noteBackRow.holds Try.pinned (OpenSpec.ofChange noteBackSpec)

/-- ITS FALSE NEIGHBOUR: 'it returns false'. Refute it at one input. -/
def noteBackWrong : ChangeSpec := { name := "noteBack", fn := fun _ => fun
  | [d1, d2, d3] => { results := [.lit (.bool false)], args := [d1, d2, d3] }
  | _ => none }
def NoteBackWrongFalsely : Prop := noteBackRow.holds Try.pinned (OpenSpec.ofChange noteBackWrong)

/- THE SECOND FORM. 'bulk': how many values and letters a reading holds, each counted each time it is reached (what is shared counts as often as it is met; a slice's spare places count too). A statement '..UptoSaid' is the law's where the arguments, and the package variables that the reading takes, are together of bulk at most 1048576: NARROWER than '..Said'. Prove '..Said' where nothing that the law and all that it calls make is longer than what came in: it says more and counts as full. Else prove '..UptoSaid'. A law counts once. -/
mutual
def uptoBulk {H : Type} : DataW H → Nat
  | .lit (.string bytes) => bytes.length + 1
  | .lit _ => 1
  | .nil => 1
  | .ptr d => uptoBulk d + 1
  | .slice elems spare => uptoBulkAll elems + uptoBulkAll spare + 1
  | .agg parts => uptoBulkAll parts + 1
  | .iface _ d => uptoBulk d + 1
  | .map entries => uptoBulkEntries entries + 1
  | .held _ => 1
def uptoBulkAll {H : Type} : List (DataW H) → Nat
  | [] => 0
  | d :: r => uptoBulk d + uptoBulkAll r
def uptoBulkEntries {H : Type} : List (Lit × DataW H) → Nat
  | [] => 0
  | x :: r => uptoBulkEntry x + uptoBulkEntries r
def uptoBulkEntry {H : Type} : Lit × DataW H → Nat
  | (.string bytes, d) => bytes.length + uptoBulk d + 1
  | (_, d) => uptoBulk d + 1
 end
def uptoSmall : (H : Type) → List (DataW H) → Bool := fun _ ds => decide (uptoBulkAll ds ≤ 1048576)
def OpenSpec.upto (s : _root_.Go.ChangeSpec) : _root_.Go.OpenSpec := { _root_.Go.OpenSpec.ofChange s with cond := some uptoSmall }

/-- 'switchyardlaw01.WrapWords', WHERE WHAT IT READS IS OF BULK AT MOST 1048576: true; the input reads as it did. -/
def wrapWordsUptoRow : OpenClaim := { program := "ytpkdanfiplolhaa", sum := "29595d992e55a61fcc91d0d023c2d7c361d9fa0e95dcde67c6979ae486abbd4b", func := "switchyard/switchyardlaw01.WrapWords", spec := "wrapWords", apart := false, narrowed := true }
def WrapWordsUptoSaid : Prop := wrapWordsUptoRow.holds Try.pinned (OpenSpec.upto wrapWordsSpec)

/-- 'switchyardlaw01.WrapIn', WHERE WHAT IT READS IS OF BULK AT MOST 1048576: true; the input reads as it did. -/
def wrapInUptoRow : OpenClaim := { program := "ytpkdanfiplolhaa", sum := "29595d992e55a61fcc91d0d023c2d7c361d9fa0e95dcde67c6979ae486abbd4b", func := "switchyard/switchyardlaw01.WrapIn", spec := "wrapIn", apart := false, narrowed := true }
def WrapInUptoSaid : Prop := wrapInUptoRow.holds Try.pinned (OpenSpec.upto wrapInSpec)

/-- 'switchyardlaw01.WrapDigits', WHERE WHAT IT READS IS OF BULK AT MOST 1048576: true; the input reads as it did. -/
def wrapDigitsUptoRow : OpenClaim := { program := "ytpkdanfiplolhaa", sum := "29595d992e55a61fcc91d0d023c2d7c361d9fa0e95dcde67c6979ae486abbd4b", func := "switchyard/switchyardlaw01.WrapDigits", spec := "wrapDigits", apart := false, narrowed := true }
def WrapDigitsUptoSaid : Prop := wrapDigitsUptoRow.holds Try.pinned (OpenSpec.upto wrapDigitsSpec)

/-- 'switchyardlaw01.WrapBack', WHERE WHAT IT READS IS OF BULK AT MOST 1048576: true; the input reads as it did. -/
def wrapBackUptoRow : OpenClaim := { program := "ytpkdanfiplolhaa", sum := "29595d992e55a61fcc91d0d023c2d7c361d9fa0e95dcde67c6979ae486abbd4b", func := "switchyard/switchyardlaw01.WrapBack", spec := "wrapBack", apart := false, narrowed := true }
def WrapBackUptoSaid : Prop := wrapBackUptoRow.holds Try.pinned (OpenSpec.upto wrapBackSpec)

/-- 'switchyardlaw26.HeadWrites', WHERE WHAT IT READS IS OF BULK AT MOST 1048576: true; the input reads as it did. -/
def headWritesUptoRow : OpenClaim := { program := "ytpkdanfiplolhaa", sum := "29595d992e55a61fcc91d0d023c2d7c361d9fa0e95dcde67c6979ae486abbd4b", func := "switchyard/switchyardlaw26.HeadWrites", spec := "headWrites", unfollowed := true, recurses := true, apart := false, narrowed := true }
def HeadWritesUptoSaid : Prop := headWritesUptoRow.holds Try.pinned (OpenSpec.upto headWritesSpec)

/-- 'switchyardlaw26.HeadReads', WHERE WHAT IT READS IS OF BULK AT MOST 1048576: true; the input reads as it did. -/
def headReadsUptoRow : OpenClaim := { program := "ytpkdanfiplolhaa", sum := "29595d992e55a61fcc91d0d023c2d7c361d9fa0e95dcde67c6979ae486abbd4b", func := "switchyard/switchyardlaw26.HeadReads", spec := "headReads", unfollowed := true, recurses := true, apart := false, narrowed := true }
def HeadReadsUptoSaid : Prop := headReadsUptoRow.holds Try.pinned (OpenSpec.upto headReadsSpec)

/-- 'switchyardlaw27.NoteWrites', WHERE WHAT IT READS IS OF BULK AT MOST 1048576: true; the input reads as it did. -/
def noteWritesUptoRow : OpenClaim := { program := "ytpkdanfiplolhaa", sum := "29595d992e55a61fcc91d0d023c2d7c361d9fa0e95dcde67c6979ae486abbd4b", func := "switchyard/switchyardlaw27.NoteWrites", spec := "noteWrites", apart := false, narrowed := true }
def NoteWritesUptoSaid : Prop := noteWritesUptoRow.holds Try.pinned (OpenSpec.upto noteWritesSpec)

/-- 'switchyardlaw26.HeadBack', WHERE WHAT IT READS IS OF BULK AT MOST 1048576: true; the input reads as it did. -/
def headBackUptoRow : OpenClaim := { program := "ytpkdanfiplolhaa", sum := "29595d992e55a61fcc91d0d023c2d7c361d9fa0e95dcde67c6979ae486abbd4b", func := "switchyard/switchyardlaw26.HeadBack", spec := "headBack", unfollowed := true, recurses := true, apart := false, narrowed := true }
def HeadBackUptoSaid : Prop := headBackUptoRow.holds Try.pinned (OpenSpec.upto headBackSpec)

/-- 'switchyardlaw27.NoteReads', WHERE WHAT IT READS IS OF BULK AT MOST 1048576: true; the input reads as it did. -/
def noteReadsUptoRow : OpenClaim := { program := "ytpkdanfiplolhaa", sum := "29595d992e55a61fcc91d0d023c2d7c361d9fa0e95dcde67c6979ae486abbd4b", func := "switchyard/switchyardlaw27.NoteReads", spec := "noteReads", unfollowed := true, recurses := true, apart := false, narrowed := true }
def NoteReadsUptoSaid : Prop := noteReadsUptoRow.holds Try.pinned (OpenSpec.upto noteReadsSpec)

/-- 'switchyardlaw27.NoteBack', WHERE WHAT IT READS IS OF BULK AT MOST 1048576: true; the input reads as it did. -/
def noteBackUptoRow : OpenClaim := { program := "ytpkdanfiplolhaa", sum := "29595d992e55a61fcc91d0d023c2d7c361d9fa0e95dcde67c6979ae486abbd4b", func := "switchyard/switchyardlaw27.NoteBack", spec := "noteBack", unfollowed := true, recurses := true, apart := false, narrowed := true }
def NoteBackUptoSaid : Prop := noteBackUptoRow.holds Try.pinned (OpenSpec.upto noteBackSpec)

end Rows
end Go.Proofs.Ytpkdanfiplolhaa
