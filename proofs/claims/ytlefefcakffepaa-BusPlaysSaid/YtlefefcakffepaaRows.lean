/-
  No cell of these rows narrows 'for every input' (looked for: loops, veiled, ifaces, maps, wideKeys, modest, calm, conditions, laid).
  DERIVED. THE GIVEN ROWS OF THIS SEAT. 6 by the template 'for every input the law returns true; each argument reads behind the call as it read before'; 0 by the template 'total and deterministic' (their statements: YtlefefcakffepaaTotals.lean).
  GIVEN WITH THE SEED: the statements are not yours to turn. If you find one false, say at which input.
  Laid BY PROGRAM, IN A SANDBOX (cutbox-rows.mjs): the forced cells as the released guide's own fill.sh prints them over the translation 47e180a3b442fd40… (all of the seat's roots in one cut). By AI agents, Wed Nov 11 2026. No macro, syntax, notation, axiom, sorry.
-/
import Derived.Test.YtlefefcakffepaaChecked
import GoSem.Claim
import GoSem.ClaimJoined
import GoSem.ClaimMapViews
import Derived.JoinedTies
import Derived.KernelRfl
namespace Go.Proofs.Ytlefefcakffepaa
/- THE CELL 'sum', in the pinned program and in every row, IS THE sha256 OF THE DUMP (.gsa) THAT YtlefefcakffepaaProg.lean LOADS. Nothing in Lean hashes anything: it is a label: what it is worth is what the hold of that sum in a sandbox is worth. -/
noncomputable def Try.pinned : Pinned := { name := "ytlefefcakffepaa", sum := "47e180a3b442fd40bf1ed5b3d7e324e4eb4b2d67b5324fd49ef75edf2552bc94", checked := Try.checked }
namespace Rows
def none {H : Type} : Left H := { results := [], args := [] }

/-- 'switchyardlaw06.BusAlone': WHATEVER THE INPUT: true; the input reads as it did. -/
def busAloneSpec : ChangeSpec := { name := "busAlone", fn := fun _ => fun
  | [d1, d2, d3] => { results := [.lit (.bool true)], args := [d1, d2, d3] }
  | _ => none }
def busAloneRow : OpenClaim := { program := "ytlefefcakffepaa", sum := "47e180a3b442fd40bf1ed5b3d7e324e4eb4b2d67b5324fd49ef75edf2552bc94", func := "switchyard/switchyardlaw06.BusAlone", spec := "busAlone", unfollowed := true, recurses := true, apart := false }
def BusAloneSaid : Prop := busAloneRow.holds Try.pinned (OpenSpec.ofChange busAloneSpec)

/-- ITS FALSE NEIGHBOUR: 'it returns false'. Refute it at one input. -/
def busAloneWrong : ChangeSpec := { name := "busAlone", fn := fun _ => fun
  | [d1, d2, d3] => { results := [.lit (.bool false)], args := [d1, d2, d3] }
  | _ => none }
def BusAloneWrongFalsely : Prop := busAloneRow.holds Try.pinned (OpenSpec.ofChange busAloneWrong)

/-- 'switchyardlaw06.BusPlays': WHATEVER THE INPUT: true; the input reads as it did. -/
def busPlaysSpec : ChangeSpec := { name := "busPlays", fn := fun _ => fun
  | [d1, d2, d3, d4] => { results := [.lit (.bool true)], args := [d1, d2, d3, d4] }
  | _ => none }
def busPlaysRow : OpenClaim := { program := "ytlefefcakffepaa", sum := "47e180a3b442fd40bf1ed5b3d7e324e4eb4b2d67b5324fd49ef75edf2552bc94", func := "switchyard/switchyardlaw06.BusPlays", spec := "busPlays", unfollowed := true, recurses := true, apart := false }
def BusPlaysSaid : Prop := busPlaysRow.holds Try.pinned (OpenSpec.ofChange busPlaysSpec)

/-- ITS FALSE NEIGHBOUR: 'it returns false'. Refute it at one input. -/
def busPlaysWrong : ChangeSpec := { name := "busPlays", fn := fun _ => fun
  | [d1, d2, d3, d4] => { results := [.lit (.bool false)], args := [d1, d2, d3, d4] }
  | _ => none }
def BusPlaysWrongFalsely : Prop := busPlaysRow.holds Try.pinned (OpenSpec.ofChange busPlaysWrong)

/-- 'switchyardlaw06.BusOrder': WHATEVER THE INPUT: true; the input reads as it did. -/
def busOrderSpec : ChangeSpec := { name := "busOrder", fn := fun _ => fun
  | [d1, d2, d3, d4] => { results := [.lit (.bool true)], args := [d1, d2, d3, d4] }
  | _ => none }
def busOrderRow : OpenClaim := { program := "ytlefefcakffepaa", sum := "47e180a3b442fd40bf1ed5b3d7e324e4eb4b2d67b5324fd49ef75edf2552bc94", func := "switchyard/switchyardlaw06.BusOrder", spec := "busOrder", unfollowed := true, recurses := true, apart := false }
def BusOrderSaid : Prop := busOrderRow.holds Try.pinned (OpenSpec.ofChange busOrderSpec)

/-- ITS FALSE NEIGHBOUR: 'it returns false'. Refute it at one input. -/
def busOrderWrong : ChangeSpec := { name := "busOrder", fn := fun _ => fun
  | [d1, d2, d3, d4] => { results := [.lit (.bool false)], args := [d1, d2, d3, d4] }
  | _ => none }
def BusOrderWrongFalsely : Prop := busOrderRow.holds Try.pinned (OpenSpec.ofChange busOrderWrong)

/-- 'switchyardlaw06.BusNobody': WHATEVER THE INPUT: true; the input reads as it did. -/
def busNobodySpec : ChangeSpec := { name := "busNobody", fn := fun _ => fun
  | [d] => { results := [.lit (.bool true)], args := [d] }
  | _ => none }
def busNobodyRow : OpenClaim := { program := "ytlefefcakffepaa", sum := "47e180a3b442fd40bf1ed5b3d7e324e4eb4b2d67b5324fd49ef75edf2552bc94", func := "switchyard/switchyardlaw06.BusNobody", spec := "busNobody", unfollowed := true, recurses := true, apart := false }
def BusNobodySaid : Prop := busNobodyRow.holds Try.pinned (OpenSpec.ofChange busNobodySpec)

/-- ITS FALSE NEIGHBOUR: 'it returns false'. Refute it at one input. -/
def busNobodyWrong : ChangeSpec := { name := "busNobody", fn := fun _ => fun
  | [d] => { results := [.lit (.bool false)], args := [d] }
  | _ => none }
def BusNobodyWrongFalsely : Prop := busNobodyRow.holds Try.pinned (OpenSpec.ofChange busNobodyWrong)

/-- 'switchyardlaw06.BusFenced': WHATEVER THE INPUT: true; the input reads as it did. -/
def busFencedSpec : ChangeSpec := { name := "busFenced", fn := fun _ => fun
  | [d1, d2, d3, d4] => { results := [.lit (.bool true)], args := [d1, d2, d3, d4] }
  | _ => none }
def busFencedRow : OpenClaim := { program := "ytlefefcakffepaa", sum := "47e180a3b442fd40bf1ed5b3d7e324e4eb4b2d67b5324fd49ef75edf2552bc94", func := "switchyard/switchyardlaw06.BusFenced", spec := "busFenced", unfollowed := true, recurses := true, apart := false }
def BusFencedSaid : Prop := busFencedRow.holds Try.pinned (OpenSpec.ofChange busFencedSpec)

/-- ITS FALSE NEIGHBOUR: 'it returns false'. Refute it at one input. -/
def busFencedWrong : ChangeSpec := { name := "busFenced", fn := fun _ => fun
  | [d1, d2, d3, d4] => { results := [.lit (.bool false)], args := [d1, d2, d3, d4] }
  | _ => none }
def BusFencedWrongFalsely : Prop := busFencedRow.holds Try.pinned (OpenSpec.ofChange busFencedWrong)

/-- 'switchyardlaw06.BusOwn': WHATEVER THE INPUT: true; the input reads as it did. -/
def busOwnSpec : ChangeSpec := { name := "busOwn", fn := fun _ => fun
  | [d1, d2, d3, d4] => { results := [.lit (.bool true)], args := [d1, d2, d3, d4] }
  | _ => none }
def busOwnRow : OpenClaim := { program := "ytlefefcakffepaa", sum := "47e180a3b442fd40bf1ed5b3d7e324e4eb4b2d67b5324fd49ef75edf2552bc94", func := "switchyard/switchyardlaw06.BusOwn", spec := "busOwn", unfollowed := true, recurses := true, apart := false }
def BusOwnSaid : Prop := busOwnRow.holds Try.pinned (OpenSpec.ofChange busOwnSpec)

/-- ITS FALSE NEIGHBOUR: 'it returns false'. Refute it at one input. -/
def busOwnWrong : ChangeSpec := { name := "busOwn", fn := fun _ => fun
  | [d1, d2, d3, d4] => { results := [.lit (.bool false)], args := [d1, d2, d3, d4] }
  | _ => none }
def BusOwnWrongFalsely : Prop := busOwnRow.holds Try.pinned (OpenSpec.ofChange busOwnWrong)

/- THE SECOND FORM. 'bulk': how many values and letters a reading holds, each counted each time it is reached (what is shared counts as often as it is met; a slice's spare places count too). A statement '..UptoSaid' is the law's where the arguments, and the package variables that the reading takes, are together of bulk at most 1048576: NARROWER than '..Said'. Prove '..Said' where nothing that the law and all that it calls make is longer than what came in: it says more and counts as full. Else prove '..UptoSaid'. A law counts once. -/
mutual
def uptoBulk {H : Type} : DataW H → Nat
  | .lit (.string bytes) => bytes.length + 1
  | .lit _ => 1
  | .nil => 1
  | .ptr d => uptoBulk d + 1
  | .slice elems spare => uptoBulkAll elems + uptoBulkAll spare + 1
  | .agg parts => uptoBulkAll parts + 1
  | .iface _ d => uptoBulk d + 1
  | .map entries => uptoBulkEntries entries + 1
  | .held _ => 1
def uptoBulkAll {H : Type} : List (DataW H) → Nat
  | [] => 0
  | d :: r => uptoBulk d + uptoBulkAll r
def uptoBulkEntries {H : Type} : List (Lit × DataW H) → Nat
  | [] => 0
  | x :: r => uptoBulkEntry x + uptoBulkEntries r
def uptoBulkEntry {H : Type} : Lit × DataW H → Nat
  | (.string bytes, d) => bytes.length + uptoBulk d + 1
  | (_, d) => uptoBulk d + 1
 end
def uptoSmall : (H : Type) → List (DataW H) → Bool := fun _ ds => decide (uptoBulkAll ds ≤ 1048576)
def OpenSpec.upto (s : _root_.Go.ChangeSpec) : _root_.Go.OpenSpec := { _root_.Go.OpenSpec.ofChange s with cond := some uptoSmall }

/-- 'switchyardlaw06.BusAlone', WHERE WHAT IT READS IS OF BULK AT MOST 1048576: true; the input reads as it did. -/
def busAloneUptoRow : OpenClaim := { program := "ytlefefcakffepaa", sum := "47e180a3b442fd40bf1ed5b3d7e324e4eb4b2d67b5324fd49ef75edf2552bc94", func := "switchyard/switchyardlaw06.BusAlone", spec := "busAlone", unfollowed := true, recurses := true, apart := false, narrowed := true }
def BusAloneUptoSaid : Prop := busAloneUptoRow.holds Try.pinned (OpenSpec.upto busAloneSpec)

/-- 'switchyardlaw06.BusPlays', WHERE WHAT IT READS IS OF BULK AT MOST 1048576: true; the input reads as it did. -/
def busPlaysUptoRow : OpenClaim := { program := "ytlefefcakffepaa", sum := "47e180a3b442fd40bf1ed5b3d7e324e4eb4b2d67b5324fd49ef75edf2552bc94", func := "switchyard/switchyardlaw06.BusPlays", spec := "busPlays", unfollowed := true, recurses := true, apart := false, narrowed := true }
def BusPlaysUptoSaid : Prop := busPlaysUptoRow.holds Try.pinned (OpenSpec.upto busPlaysSpec)

/-- 'switchyardlaw06.BusOrder', WHERE WHAT IT READS IS OF BULK AT MOST 1048576: true; the input reads as it did. -/
def busOrderUptoRow : OpenClaim := { program := "ytlefefcakffepaa", sum := "47e180a3b442fd40bf1ed5b3d7e324e4eb4b2d67b5324fd49ef75edf2552bc94", func := "switchyard/switchyardlaw06.BusOrder", spec := "busOrder", unfollowed := true, recurses := true, apart := false, narrowed := true }
def BusOrderUptoSaid : Prop := busOrderUptoRow.holds Try.pinned (OpenSpec.upto busOrderSpec)

/-- 'switchyardlaw06.BusNobody', WHERE WHAT IT READS IS OF BULK AT MOST 1048576: true; the input reads as it did. -/
def busNobodyUptoRow : OpenClaim := { program := "ytlefefcakffepaa", sum := "47e180a3b442fd40bf1ed5b3d7e324e4eb4b2d67b5324fd49ef75edf2552bc94", func := "switchyard/switchyardlaw06.BusNobody", spec := "busNobody", unfollowed := true, recurses := true, apart := false, narrowed := true }
def BusNobodyUptoSaid : Prop := busNobodyUptoRow.holds Try.pinned (OpenSpec.upto busNobodySpec)

/-- 'switchyardlaw06.BusFenced', WHERE WHAT IT READS IS OF BULK AT MOST 1048576: true; the input reads as it did. -/
def busFencedUptoRow : OpenClaim := { program := "ytlefefcakffepaa", sum := "47e180a3b442fd40bf1ed5b3d7e324e4eb4b2d67b5324fd49ef75edf2552bc94", func := "switchyard/switchyardlaw06.BusFenced", spec := "busFenced", unfollowed := true, recurses := true, apart := false, narrowed := true }
def BusFencedUptoSaid : Prop := busFencedUptoRow.holds Try.pinned (OpenSpec.upto busFencedSpec)

/-- 'switchyardlaw06.BusOwn', WHERE WHAT IT READS IS OF BULK AT MOST 1048576: true; the input reads as it did. -/
def busOwnUptoRow : OpenClaim := { program := "ytlefefcakffepaa", sum := "47e180a3b442fd40bf1ed5b3d7e324e4eb4b2d67b5324fd49ef75edf2552bc94", func := "switchyard/switchyardlaw06.BusOwn", spec := "busOwn", unfollowed := true, recurses := true, apart := false, narrowed := true }
def BusOwnUptoSaid : Prop := busOwnUptoRow.holds Try.pinned (OpenSpec.upto busOwnSpec)

end Rows
end Go.Proofs.Ytlefefcakffepaa
