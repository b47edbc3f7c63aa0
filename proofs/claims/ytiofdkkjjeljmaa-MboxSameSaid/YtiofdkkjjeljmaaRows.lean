/-
  No cell of these rows narrows 'for every input' (looked for: loops, veiled, ifaces, maps, wideKeys, modest, calm, conditions, laid).
  DERIVED. THE GIVEN ROWS OF THIS SEAT. 11 by the template 'for every input the law returns true; each argument reads behind the call as it read before'; 0 by the template 'total and deterministic' (their statements: YtiofdkkjjeljmaaTotals.lean).
  GIVEN WITH THE SEED: the statements are not yours to turn. If you find one false, say at which input.
  Laid BY PROGRAM, IN A SANDBOX (cutbox-rows.mjs): the forced cells as the released guide's own fill.sh prints them over the translation dc62732fdf362482… (all of the seat's roots in one cut). By AI agents, Wed Nov 11 2026. No macro, syntax, notation, axiom, sorry.
-/
import Derived.Test.YtiofdkkjjeljmaaChecked
import GoSem.Claim
import GoSem.ClaimJoined
import GoSem.ClaimMapViews
import Derived.JoinedTies
import Derived.KernelRfl
namespace Go.Proofs.Ytiofdkkjjeljmaa
/- THE CELL 'sum', in the pinned program and in every row, IS THE sha256 OF THE DUMP (.gsa) THAT YtiofdkkjjeljmaaProg.lean LOADS. Nothing in Lean hashes anything: it is a label: what it is worth is what the hold of that sum in a sandbox is worth. -/
noncomputable def Try.pinned : Pinned := { name := "ytiofdkkjjeljmaa", sum := "dc62732fdf3624820572578afdcb7f90c14c7a8a9f0716e2a0380a745af2aa1d", checked := Try.checked }
namespace Rows
def none {H : Type} : Left H := { results := [], args := [] }

/-- 'switchyardlaw03.SramKeeps': WHATEVER THE INPUT: true; the input reads as it did. -/
def sramKeepsSpec : ChangeSpec := { name := "sramKeeps", fn := fun _ => fun
  | [d1, d2, d3] => { results := [.lit (.bool true)], args := [d1, d2, d3] }
  | _ => none }
def sramKeepsRow : OpenClaim := { program := "ytiofdkkjjeljmaa", sum := "dc62732fdf3624820572578afdcb7f90c14c7a8a9f0716e2a0380a745af2aa1d", func := "switchyard/switchyardlaw03.SramKeeps", spec := "sramKeeps", apart := false }
def SramKeepsSaid : Prop := sramKeepsRow.holds Try.pinned (OpenSpec.ofChange sramKeepsSpec)

/-- ITS FALSE NEIGHBOUR: 'it returns false'. Refute it at one input. -/
def sramKeepsWrong : ChangeSpec := { name := "sramKeeps", fn := fun _ => fun
  | [d1, d2, d3] => { results := [.lit (.bool false)], args := [d1, d2, d3] }
  | _ => none }
def SramKeepsWrongFalsely : Prop := sramKeepsRow.holds Try.pinned (OpenSpec.ofChange sramKeepsWrong)

/-- 'switchyardlaw03.SramPlays': WHATEVER THE INPUT: true; the input reads as it did. -/
def sramPlaysSpec : ChangeSpec := { name := "sramPlays", fn := fun _ => fun
  | [d1, d2] => { results := [.lit (.bool true)], args := [d1, d2] }
  | _ => none }
def sramPlaysRow : OpenClaim := { program := "ytiofdkkjjeljmaa", sum := "dc62732fdf3624820572578afdcb7f90c14c7a8a9f0716e2a0380a745af2aa1d", func := "switchyard/switchyardlaw03.SramPlays", spec := "sramPlays", apart := false }
def SramPlaysSaid : Prop := sramPlaysRow.holds Try.pinned (OpenSpec.ofChange sramPlaysSpec)

/-- ITS FALSE NEIGHBOUR: 'it returns false'. Refute it at one input. -/
def sramPlaysWrong : ChangeSpec := { name := "sramPlays", fn := fun _ => fun
  | [d1, d2] => { results := [.lit (.bool false)], args := [d1, d2] }
  | _ => none }
def SramPlaysWrongFalsely : Prop := sramPlaysRow.holds Try.pinned (OpenSpec.ofChange sramPlaysWrong)

/-- 'switchyardlaw03.SramCells': WHATEVER THE INPUT: true; the input reads as it did. -/
def sramCellsSpec : ChangeSpec := { name := "sramCells", fn := fun _ => fun
  | [d1, d2, d3, d4] => { results := [.lit (.bool true)], args := [d1, d2, d3, d4] }
  | _ => none }
def sramCellsRow : OpenClaim := { program := "ytiofdkkjjeljmaa", sum := "dc62732fdf3624820572578afdcb7f90c14c7a8a9f0716e2a0380a745af2aa1d", func := "switchyard/switchyardlaw03.SramCells", spec := "sramCells", apart := false }
def SramCellsSaid : Prop := sramCellsRow.holds Try.pinned (OpenSpec.ofChange sramCellsSpec)

/-- ITS FALSE NEIGHBOUR: 'it returns false'. Refute it at one input. -/
def sramCellsWrong : ChangeSpec := { name := "sramCells", fn := fun _ => fun
  | [d1, d2, d3, d4] => { results := [.lit (.bool false)], args := [d1, d2, d3, d4] }
  | _ => none }
def SramCellsWrongFalsely : Prop := sramCellsRow.holds Try.pinned (OpenSpec.ofChange sramCellsWrong)

/-- 'switchyardlaw03.SramNobody': WHATEVER THE INPUT: true; the input reads as it did. -/
def sramNobodySpec : ChangeSpec := { name := "sramNobody", fn := fun _ => fun
  | [d] => { results := [.lit (.bool true)], args := [d] }
  | _ => none }
def sramNobodyRow : OpenClaim := { program := "ytiofdkkjjeljmaa", sum := "dc62732fdf3624820572578afdcb7f90c14c7a8a9f0716e2a0380a745af2aa1d", func := "switchyard/switchyardlaw03.SramNobody", spec := "sramNobody", apart := false }
def SramNobodySaid : Prop := sramNobodyRow.holds Try.pinned (OpenSpec.ofChange sramNobodySpec)

/-- ITS FALSE NEIGHBOUR: 'it returns false'. Refute it at one input. -/
def sramNobodyWrong : ChangeSpec := { name := "sramNobody", fn := fun _ => fun
  | [d] => { results := [.lit (.bool false)], args := [d] }
  | _ => none }
def SramNobodyWrongFalsely : Prop := sramNobodyRow.holds Try.pinned (OpenSpec.ofChange sramNobodyWrong)

/-- 'switchyardlaw09.MboxPlays': WHATEVER THE INPUT: true; the input reads as it did. -/
def mboxPlaysSpec : ChangeSpec := { name := "mboxPlays", fn := fun _ => fun
  | [d1, d2] => { results := [.lit (.bool true)], args := [d1, d2] }
  | _ => none }
def mboxPlaysRow : OpenClaim := { program := "ytiofdkkjjeljmaa", sum := "dc62732fdf3624820572578afdcb7f90c14c7a8a9f0716e2a0380a745af2aa1d", func := "switchyard/switchyardlaw09.MboxPlays", spec := "mboxPlays", unfollowed := true, recurses := true, apart := false }
def MboxPlaysSaid : Prop := mboxPlaysRow.holds Try.pinned (OpenSpec.ofChange mboxPlaysSpec)

/-- ITS FALSE NEIGHBOUR: 'it returns false'. Refute it at one input. -/
def mboxPlaysWrong : ChangeSpec := { name := "mboxPlays", fn := fun _ => fun
  | [d1, d2] => { results := [.lit (.bool false)], args := [d1, d2] }
  | _ => none }
def MboxPlaysWrongFalsely : Prop := mboxPlaysRow.holds Try.pinned (OpenSpec.ofChange mboxPlaysWrong)

/-- 'switchyardlaw09.MboxOrder': WHATEVER THE INPUT: true; the input reads as it did. -/
def mboxOrderSpec : ChangeSpec := { name := "mboxOrder", fn := fun _ => fun
  | [d1, d2, d3] => { results := [.lit (.bool true)], args := [d1, d2, d3] }
  | _ => none }
def mboxOrderRow : OpenClaim := { program := "ytiofdkkjjeljmaa", sum := "dc62732fdf3624820572578afdcb7f90c14c7a8a9f0716e2a0380a745af2aa1d", func := "switchyard/switchyardlaw09.MboxOrder", spec := "mboxOrder", unfollowed := true, recurses := true, apart := false }
def MboxOrderSaid : Prop := mboxOrderRow.holds Try.pinned (OpenSpec.ofChange mboxOrderSpec)

/-- ITS FALSE NEIGHBOUR: 'it returns false'. Refute it at one input. -/
def mboxOrderWrong : ChangeSpec := { name := "mboxOrder", fn := fun _ => fun
  | [d1, d2, d3] => { results := [.lit (.bool false)], args := [d1, d2, d3] }
  | _ => none }
def MboxOrderWrongFalsely : Prop := mboxOrderRow.holds Try.pinned (OpenSpec.ofChange mboxOrderWrong)

/-- 'switchyardlaw05.SbufOrder': WHATEVER THE INPUT: true; the input reads as it did. -/
def sbufOrderSpec : ChangeSpec := { name := "sbufOrder", fn := fun _ => fun
  | [d1, d2, d3] => { results := [.lit (.bool true)], args := [d1, d2, d3] }
  | _ => none }
def sbufOrderRow : OpenClaim := { program := "ytiofdkkjjeljmaa", sum := "dc62732fdf3624820572578afdcb7f90c14c7a8a9f0716e2a0380a745af2aa1d", func := "switchyard/switchyardlaw05.SbufOrder", spec := "sbufOrder", unfollowed := true, recurses := true, apart := false }
def SbufOrderSaid : Prop := sbufOrderRow.holds Try.pinned (OpenSpec.ofChange sbufOrderSpec)

/-- ITS FALSE NEIGHBOUR: 'it returns false'. Refute it at one input. -/
def sbufOrderWrong : ChangeSpec := { name := "sbufOrder", fn := fun _ => fun
  | [d1, d2, d3] => { results := [.lit (.bool false)], args := [d1, d2, d3] }
  | _ => none }
def SbufOrderWrongFalsely : Prop := sbufOrderRow.holds Try.pinned (OpenSpec.ofChange sbufOrderWrong)

/-- 'switchyardlaw05.SbufPlays': WHATEVER THE INPUT: true; the input reads as it did. -/
def sbufPlaysSpec : ChangeSpec := { name := "sbufPlays", fn := fun _ => fun
  | [d1, d2, d3] => { results := [.lit (.bool true)], args := [d1, d2, d3] }
  | _ => none }
def sbufPlaysRow : OpenClaim := { program := "ytiofdkkjjeljmaa", sum := "dc62732fdf3624820572578afdcb7f90c14c7a8a9f0716e2a0380a745af2aa1d", func := "switchyard/switchyardlaw05.SbufPlays", spec := "sbufPlays", unfollowed := true, recurses := true, apart := false }
def SbufPlaysSaid : Prop := sbufPlaysRow.holds Try.pinned (OpenSpec.ofChange sbufPlaysSpec)

/-- ITS FALSE NEIGHBOUR: 'it returns false'. Refute it at one input. -/
def sbufPlaysWrong : ChangeSpec := { name := "sbufPlays", fn := fun _ => fun
  | [d1, d2, d3] => { results := [.lit (.bool false)], args := [d1, d2, d3] }
  | _ => none }
def SbufPlaysWrongFalsely : Prop := sbufPlaysRow.holds Try.pinned (OpenSpec.ofChange sbufPlaysWrong)

/-- 'switchyardlaw05.SbufNobody': WHATEVER THE INPUT: true; the input reads as it did. -/
def sbufNobodySpec : ChangeSpec := { name := "sbufNobody", fn := fun _ => fun
  | [d] => { results := [.lit (.bool true)], args := [d] }
  | _ => none }
def sbufNobodyRow : OpenClaim := { program := "ytiofdkkjjeljmaa", sum := "dc62732fdf3624820572578afdcb7f90c14c7a8a9f0716e2a0380a745af2aa1d", func := "switchyard/switchyardlaw05.SbufNobody", spec := "sbufNobody", unfollowed := true, recurses := true, apart := false }
def SbufNobodySaid : Prop := sbufNobodyRow.holds Try.pinned (OpenSpec.ofChange sbufNobodySpec)

/-- ITS FALSE NEIGHBOUR: 'it returns false'. Refute it at one input. -/
def sbufNobodyWrong : ChangeSpec := { name := "sbufNobody", fn := fun _ => fun
  | [d] => { results := [.lit (.bool false)], args := [d] }
  | _ => none }
def SbufNobodyWrongFalsely : Prop := sbufNobodyRow.holds Try.pinned (OpenSpec.ofChange sbufNobodyWrong)

/-- 'switchyardlaw09.MboxSame': WHATEVER THE INPUT: true; the input reads as it did. -/
def mboxSameSpec : ChangeSpec := { name := "mboxSame", fn := fun _ => fun
  | [d1, d2, d3] => { results := [.lit (.bool true)], args := [d1, d2, d3] }
  | _ => none }
def mboxSameRow : OpenClaim := { program := "ytiofdkkjjeljmaa", sum := "dc62732fdf3624820572578afdcb7f90c14c7a8a9f0716e2a0380a745af2aa1d", func := "switchyard/switchyardlaw09.MboxSame", spec := "mboxSame", unfollowed := true, recurses := true, apart := false }
def MboxSameSaid : Prop := mboxSameRow.holds Try.pinned (OpenSpec.ofChange mboxSameSpec)

/-- ITS FALSE NEIGHBOUR: 'it returns false'. Refute it at one input. -/
def mboxSameWrong : ChangeSpec := { name := "mboxSame", fn := fun _ => fun
  | [d1, d2, d3] => { results := [.lit (.bool false)], args := [d1, d2, d3] }
  | _ => none }
def MboxSameWrongFalsely : Prop := mboxSameRow.holds Try.pinned (OpenSpec.ofChange mboxSameWrong)

/-- 'switchyardlaw09.MboxNobody': WHATEVER THE INPUT: true; the input reads as it did. -/
def mboxNobodySpec : ChangeSpec := { name := "mboxNobody", fn := fun _ => fun
  | [d] => { results := [.lit (.bool true)], args := [d] }
  | _ => none }
def mboxNobodyRow : OpenClaim := { program := "ytiofdkkjjeljmaa", sum := "dc62732fdf3624820572578afdcb7f90c14c7a8a9f0716e2a0380a745af2aa1d", func := "switchyard/switchyardlaw09.MboxNobody", spec := "mboxNobody", unfollowed := true, recurses := true, apart := false }
def MboxNobodySaid : Prop := mboxNobodyRow.holds Try.pinned (OpenSpec.ofChange mboxNobodySpec)

/-- ITS FALSE NEIGHBOUR: 'it returns false'. Refute it at one input. -/
def mboxNobodyWrong : ChangeSpec := { name := "mboxNobody", fn := fun _ => fun
  | [d] => { results := [.lit (.bool false)], args := [d] }
  | _ => none }
def MboxNobodyWrongFalsely : Prop := mboxNobodyRow.holds Try.pinned (OpenSpec.ofChange mboxNobodyWrong)

/- THE SECOND FORM. 'bulk': how many values and letters a reading holds, each counted each time it is reached (what is shared counts as often as it is met; a slice's spare places count too). A statement '..UptoSaid' is the law's where the arguments, and the package variables that the reading takes, are together of bulk at most 1048576: NARROWER than '..Said'. Prove '..Said' where nothing that the law and all that it calls make is longer than what came in: it says more and counts as full. Else prove '..UptoSaid'. A law counts once. -/
mutual
def uptoBulk {H : Type} : DataW H → Nat
  | .lit (.string bytes) => bytes.length + 1
  | .lit _ => 1
  | .nil => 1
  | .ptr d => uptoBulk d + 1
  | .slice elems spare => uptoBulkAll elems + uptoBulkAll spare + 1
  | .agg parts => uptoBulkAll parts + 1
  | .iface _ d => uptoBulk d + 1
  | .map entries => uptoBulkEntries entries + 1
  | .held _ => 1
def uptoBulkAll {H : Type} : List (DataW H) → Nat
  | [] => 0
  | d :: r => uptoBulk d + uptoBulkAll r
def uptoBulkEntries {H : Type} : List (Lit × DataW H) → Nat
  | [] => 0
  | x :: r => uptoBulkEntry x + uptoBulkEntries r
def uptoBulkEntry {H : Type} : Lit × DataW H → Nat
  | (.string bytes, d) => bytes.length + uptoBulk d + 1
  | (_, d) => uptoBulk d + 1
 end
def uptoSmall : (H : Type) → List (DataW H) → Bool := fun _ ds => decide (uptoBulkAll ds ≤ 1048576)
def OpenSpec.upto (s : _root_.Go.ChangeSpec) : _root_.Go.OpenSpec := { _root_.Go.OpenSpec.ofChange s with cond := some uptoSmall }

/-- 'switchyardlaw03.SramKeeps', WHERE WHAT IT READS IS OF BULK AT MOST 1048576: true; the input reads as it did. -/
def sramKeepsUptoRow : OpenClaim := { program := "ytiofdkkjjeljmaa", sum := "dc62732fdf3624820572578afdcb7f90c14c7a8a9f0716e2a0380a745af2aa1d", func := "switchyard/switchyardlaw03.SramKeeps", spec := "sramKeeps", apart := false, narrowed := true }
def SramKeepsUptoSaid : Prop := sramKeepsUptoRow.holds Try.pinned (OpenSpec.upto sramKeepsSpec)

/-- 'switchyardlaw03.SramPlays', WHERE WHAT IT READS IS OF BULK AT MOST 1048576: true; the input reads as it did. -/
def sramPlaysUptoRow : OpenClaim := { program := "ytiofdkkjjeljmaa", sum := "dc62732fdf3624820572578afdcb7f90c14c7a8a9f0716e2a0380a745af2aa1d", func := "switchyard/switchyardlaw03.SramPlays", spec := "sramPlays", apart := false, narrowed := true }
def SramPlaysUptoSaid : Prop := sramPlaysUptoRow.holds Try.pinned (OpenSpec.upto sramPlaysSpec)

/-- 'switchyardlaw03.SramCells', WHERE WHAT IT READS IS OF BULK AT MOST 1048576: true; the input reads as it did. -/
def sramCellsUptoRow : OpenClaim := { program := "ytiofdkkjjeljmaa", sum := "dc62732fdf3624820572578afdcb7f90c14c7a8a9f0716e2a0380a745af2aa1d", func := "switchyard/switchyardlaw03.SramCells", spec := "sramCells", apart := false, narrowed := true }
def SramCellsUptoSaid : Prop := sramCellsUptoRow.holds Try.pinned (OpenSpec.upto sramCellsSpec)

/-- 'switchyardlaw03.SramNobody', WHERE WHAT IT READS IS OF BULK AT MOST 1048576: true; the input reads as it did. -/
def sramNobodyUptoRow : OpenClaim := { program := "ytiofdkkjjeljmaa", sum := "dc62732fdf3624820572578afdcb7f90c14c7a8a9f0716e2a0380a745af2aa1d", func := "switchyard/switchyardlaw03.SramNobody", spec := "sramNobody", apart := false, narrowed := true }
def SramNobodyUptoSaid : Prop := sramNobodyUptoRow.holds Try.pinned (OpenSpec.upto sramNobodySpec)

/-- 'switchyardlaw09.MboxPlays', WHERE WHAT IT READS IS OF BULK AT MOST 1048576: true; the input reads as it did. -/
def mboxPlaysUptoRow : OpenClaim := { program := "ytiofdkkjjeljmaa", sum := "dc62732fdf3624820572578afdcb7f90c14c7a8a9f0716e2a0380a745af2aa1d", func := "switchyard/switchyardlaw09.MboxPlays", spec := "mboxPlays", unfollowed := true, recurses := true, apart := false, narrowed := true }
def MboxPlaysUptoSaid : Prop := mboxPlaysUptoRow.holds Try.pinned (OpenSpec.upto mboxPlaysSpec)

/-- 'switchyardlaw09.MboxOrder', WHERE WHAT IT READS IS OF BULK AT MOST 1048576: true; the input reads as it did. -/
def mboxOrderUptoRow : OpenClaim := { program := "ytiofdkkjjeljmaa", sum := "dc62732fdf3624820572578afdcb7f90c14c7a8a9f0716e2a0380a745af2aa1d", func := "switchyard/switchyardlaw09.MboxOrder", spec := "mboxOrder", unfollowed := true, recurses := true, apart := false, narrowed := true }
def MboxOrderUptoSaid : Prop := mboxOrderUptoRow.holds Try.pinned (OpenSpec.upto mboxOrderSpec)

/-- 'switchyardlaw05.SbufOrder', WHERE WHAT IT READS IS OF BULK AT MOST 1048576: true; the input reads as it did. -/
def sbufOrderUptoRow : OpenClaim := { program := "ytiofdkkjjeljmaa", sum := "dc62732fdf3624820572578afdcb7f90c14c7a8a9f0716e2a0380a745af2aa1d", func := "switchyard/switchyardlaw05.SbufOrder", spec := "sbufOrder", unfollowed := true, recurses := true, apart := false, narrowed := true }
def SbufOrderUptoSaid : Prop := sbufOrderUptoRow.holds Try.pinned (OpenSpec.upto sbufOrderSpec)

/-- 'switchyardlaw05.SbufPlays', WHERE WHAT IT READS IS OF BULK AT MOST 1048576: true; the input reads as it did. -/
def sbufPlaysUptoRow : OpenClaim := { program := "ytiofdkkjjeljmaa", sum := "dc62732fdf3624820572578afdcb7f90c14c7a8a9f0716e2a0380a745af2aa1d", func := "switchyard/switchyardlaw05.SbufPlays", spec := "sbufPlays", unfollowed := true, recurses := true, apart := false, narrowed := true }
def SbufPlaysUptoSaid : Prop := sbufPlaysUptoRow.holds Try.pinned (OpenSpec.upto sbufPlaysSpec)

/-- 'switchyardlaw05.SbufNobody', WHERE WHAT IT READS IS OF BULK AT MOST 1048576: true; the input reads as it did. -/
def sbufNobodyUptoRow : OpenClaim := { program := "ytiofdkkjjeljmaa", sum := "dc62732fdf3624820572578afdcb7f90c14c7a8a9f0716e2a0380a745af2aa1d", func := "switchyard/switchyardlaw05.SbufNobody", spec := "sbufNobody", unfollowed := true, recurses := true, apart := false, narrowed := true }
def SbufNobodyUptoSaid : Prop := sbufNobodyUptoRow.holds Try.pinned (OpenSpec.upto sbufNobodySpec)

/-- 'switchyardlaw09.MboxSame', WHERE WHAT IT READS IS OF BULK AT MOST 1048576: true; the input reads as it did. -/
def mboxSameUptoRow : OpenClaim := { program := "ytiofdkkjjeljmaa", sum := "dc62732fdf3624820572578afdcb7f90c14c7a8a9f0716e2a0380a745af2aa1d", func := "switchyard/switchyardlaw09.MboxSame", spec := "mboxSame", unfollowed := true, recurses := true, apart := false, narrowed := true }
def MboxSameUptoSaid : Prop := mboxSameUptoRow.holds Try.pinned (OpenSpec.upto mboxSameSpec)

/-- 'switchyardlaw09.MboxNobody', WHERE WHAT IT READS IS OF BULK AT MOST 1048576: true; the input reads as it did. -/
def mboxNobodyUptoRow : OpenClaim := { program := "ytiofdkkjjeljmaa", sum := "dc62732fdf3624820572578afdcb7f90c14c7a8a9f0716e2a0380a745af2aa1d", func := "switchyard/switchyardlaw09.MboxNobody", spec := "mboxNobody", unfollowed := true, recurses := true, apart := false, narrowed := true }
def MboxNobodyUptoSaid : Prop := mboxNobodyUptoRow.holds Try.pinned (OpenSpec.upto mboxNobodySpec)

end Rows
end Go.Proofs.Ytiofdkkjjeljmaa
