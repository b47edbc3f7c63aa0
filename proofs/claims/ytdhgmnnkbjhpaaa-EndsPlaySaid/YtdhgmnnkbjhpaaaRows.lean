/-
  No cell of these rows narrows 'for every input' (looked for: loops, veiled, ifaces, maps, wideKeys, modest, calm, conditions, laid).
  DERIVED. THE GIVEN ROWS OF THIS SEAT. 9 by the template 'for every input the law returns true; each argument reads behind the call as it read before'; 0 by the template 'total and deterministic' (their statements: YtdhgmnnkbjhpaaaTotals.lean).
  GIVEN WITH THE SEED: the statements are not yours to turn. If you find one false, say at which input.
  Laid BY PROGRAM, IN A SANDBOX (cutbox-rows.mjs): the forced cells as the released guide's own fill.sh prints them over the translation afc6a7b8c88b7157… (all of the seat's roots in one cut). By AI agents, Wed Nov 11 2026. No macro, syntax, notation, axiom, sorry.
-/
import Derived.Test.YtdhgmnnkbjhpaaaChecked
import GoSem.Claim
import GoSem.ClaimJoined
import GoSem.ClaimMapViews
import Derived.JoinedTies
import Derived.KernelRfl
namespace Go.Proofs.Ytdhgmnnkbjhpaaa
/- THE CELL 'sum', in the pinned program and in every row, IS THE sha256 OF THE DUMP (.gsa) THAT YtdhgmnnkbjhpaaaProg.lean LOADS. Nothing in Lean hashes anything: it is a label: what it is worth is what the hold of that sum in a sandbox is worth. -/
noncomputable def Try.pinned : Pinned := { name := "ytdhgmnnkbjhpaaa", sum := "afc6a7b8c88b7157617d58e55753dc6b64b53df568b8f9b015cc8da757742c78", checked := Try.checked }
namespace Rows
def none {H : Type} : Left H := { results := [], args := [] }

/-- 'switchyardlaw28.EndsOrder': WHATEVER THE INPUT: true; the input reads as it did. -/
def endsOrderSpec : ChangeSpec := { name := "endsOrder", fn := fun _ => fun
  | [d1, d2] => { results := [.lit (.bool true)], args := [d1, d2] }
  | _ => none }
def endsOrderRow : OpenClaim := { program := "ytdhgmnnkbjhpaaa", sum := "afc6a7b8c88b7157617d58e55753dc6b64b53df568b8f9b015cc8da757742c78", func := "switchyard/switchyardlaw28.EndsOrder", spec := "endsOrder", unfollowed := true, recurses := true, apart := false }
def EndsOrderSaid : Prop := endsOrderRow.holds Try.pinned (OpenSpec.ofChange endsOrderSpec)

/-- ITS FALSE NEIGHBOUR: 'it returns false'. Refute it at one input. -/
def endsOrderWrong : ChangeSpec := { name := "endsOrder", fn := fun _ => fun
  | [d1, d2] => { results := [.lit (.bool false)], args := [d1, d2] }
  | _ => none }
def EndsOrderWrongFalsely : Prop := endsOrderRow.holds Try.pinned (OpenSpec.ofChange endsOrderWrong)

/-- 'switchyardlaw28.EndsApart': WHATEVER THE INPUT: true; the input reads as it did. -/
def endsApartSpec : ChangeSpec := { name := "endsApart", fn := fun _ => fun
  | [d1, d2] => { results := [.lit (.bool true)], args := [d1, d2] }
  | _ => none }
def endsApartRow : OpenClaim := { program := "ytdhgmnnkbjhpaaa", sum := "afc6a7b8c88b7157617d58e55753dc6b64b53df568b8f9b015cc8da757742c78", func := "switchyard/switchyardlaw28.EndsApart", spec := "endsApart", unfollowed := true, recurses := true, apart := false }
def EndsApartSaid : Prop := endsApartRow.holds Try.pinned (OpenSpec.ofChange endsApartSpec)

/-- ITS FALSE NEIGHBOUR: 'it returns false'. Refute it at one input. -/
def endsApartWrong : ChangeSpec := { name := "endsApart", fn := fun _ => fun
  | [d1, d2] => { results := [.lit (.bool false)], args := [d1, d2] }
  | _ => none }
def EndsApartWrongFalsely : Prop := endsApartRow.holds Try.pinned (OpenSpec.ofChange endsApartWrong)

/-- 'switchyardlaw28.EndsFull': WHATEVER THE INPUT: true; the input reads as it did. -/
def endsFullSpec : ChangeSpec := { name := "endsFull", fn := fun _ => fun
  | [d] => { results := [.lit (.bool true)], args := [d] }
  | _ => none }
def endsFullRow : OpenClaim := { program := "ytdhgmnnkbjhpaaa", sum := "afc6a7b8c88b7157617d58e55753dc6b64b53df568b8f9b015cc8da757742c78", func := "switchyard/switchyardlaw28.EndsFull", spec := "endsFull", unfollowed := true, recurses := true, apart := false }
def EndsFullSaid : Prop := endsFullRow.holds Try.pinned (OpenSpec.ofChange endsFullSpec)

/-- ITS FALSE NEIGHBOUR: 'it returns false'. Refute it at one input. -/
def endsFullWrong : ChangeSpec := { name := "endsFull", fn := fun _ => fun
  | [d] => { results := [.lit (.bool false)], args := [d] }
  | _ => none }
def EndsFullWrongFalsely : Prop := endsFullRow.holds Try.pinned (OpenSpec.ofChange endsFullWrong)

/-- 'switchyardlaw29.NamesFull': WHATEVER THE INPUT: true; the input reads as it did. -/
def namesFullSpec : ChangeSpec := { name := "namesFull", fn := fun _ => fun
  | [d] => { results := [.lit (.bool true)], args := [d] }
  | _ => none }
def namesFullRow : OpenClaim := { program := "ytdhgmnnkbjhpaaa", sum := "afc6a7b8c88b7157617d58e55753dc6b64b53df568b8f9b015cc8da757742c78", func := "switchyard/switchyardlaw29.NamesFull", spec := "namesFull", unfollowed := true, recurses := true, apart := false }
def NamesFullSaid : Prop := namesFullRow.holds Try.pinned (OpenSpec.ofChange namesFullSpec)

/-- ITS FALSE NEIGHBOUR: 'it returns false'. Refute it at one input. -/
def namesFullWrong : ChangeSpec := { name := "namesFull", fn := fun _ => fun
  | [d] => { results := [.lit (.bool false)], args := [d] }
  | _ => none }
def NamesFullWrongFalsely : Prop := namesFullRow.holds Try.pinned (OpenSpec.ofChange namesFullWrong)

/-- 'switchyardlaw29.NamesPlay': WHATEVER THE INPUT: true; the input reads as it did. -/
def namesPlaySpec : ChangeSpec := { name := "namesPlay", fn := fun _ => fun
  | [d1, d2, d3] => { results := [.lit (.bool true)], args := [d1, d2, d3] }
  | _ => none }
def namesPlayRow : OpenClaim := { program := "ytdhgmnnkbjhpaaa", sum := "afc6a7b8c88b7157617d58e55753dc6b64b53df568b8f9b015cc8da757742c78", func := "switchyard/switchyardlaw29.NamesPlay", spec := "namesPlay", unfollowed := true, recurses := true, apart := false }
def NamesPlaySaid : Prop := namesPlayRow.holds Try.pinned (OpenSpec.ofChange namesPlaySpec)

/-- ITS FALSE NEIGHBOUR: 'it returns false'. Refute it at one input. -/
def namesPlayWrong : ChangeSpec := { name := "namesPlay", fn := fun _ => fun
  | [d1, d2, d3] => { results := [.lit (.bool false)], args := [d1, d2, d3] }
  | _ => none }
def NamesPlayWrongFalsely : Prop := namesPlayRow.holds Try.pinned (OpenSpec.ofChange namesPlayWrong)

/-- 'switchyardlaw29.NamesFirst': WHATEVER THE INPUT: true; the input reads as it did. -/
def namesFirstSpec : ChangeSpec := { name := "namesFirst", fn := fun _ => fun
  | [d1, d2] => { results := [.lit (.bool true)], args := [d1, d2] }
  | _ => none }
def namesFirstRow : OpenClaim := { program := "ytdhgmnnkbjhpaaa", sum := "afc6a7b8c88b7157617d58e55753dc6b64b53df568b8f9b015cc8da757742c78", func := "switchyard/switchyardlaw29.NamesFirst", spec := "namesFirst", unfollowed := true, recurses := true, apart := false }
def NamesFirstSaid : Prop := namesFirstRow.holds Try.pinned (OpenSpec.ofChange namesFirstSpec)

/-- ITS FALSE NEIGHBOUR: 'it returns false'. Refute it at one input. -/
def namesFirstWrong : ChangeSpec := { name := "namesFirst", fn := fun _ => fun
  | [d1, d2] => { results := [.lit (.bool false)], args := [d1, d2] }
  | _ => none }
def NamesFirstWrongFalsely : Prop := namesFirstRow.holds Try.pinned (OpenSpec.ofChange namesFirstWrong)

/-- 'switchyardlaw29.NamesNobody': WHATEVER THE INPUT: true; the input reads as it did. -/
def namesNobodySpec : ChangeSpec := { name := "namesNobody", fn := fun _ => fun
  | [d1, d2] => { results := [.lit (.bool true)], args := [d1, d2] }
  | _ => none }
def namesNobodyRow : OpenClaim := { program := "ytdhgmnnkbjhpaaa", sum := "afc6a7b8c88b7157617d58e55753dc6b64b53df568b8f9b015cc8da757742c78", func := "switchyard/switchyardlaw29.NamesNobody", spec := "namesNobody", unfollowed := true, recurses := true, apart := false }
def NamesNobodySaid : Prop := namesNobodyRow.holds Try.pinned (OpenSpec.ofChange namesNobodySpec)

/-- ITS FALSE NEIGHBOUR: 'it returns false'. Refute it at one input. -/
def namesNobodyWrong : ChangeSpec := { name := "namesNobody", fn := fun _ => fun
  | [d1, d2] => { results := [.lit (.bool false)], args := [d1, d2] }
  | _ => none }
def NamesNobodyWrongFalsely : Prop := namesNobodyRow.holds Try.pinned (OpenSpec.ofChange namesNobodyWrong)

/-- 'switchyardlaw28.EndsPlay': WHATEVER THE INPUT: true; the input reads as it did. -/
def endsPlaySpec : ChangeSpec := { name := "endsPlay", fn := fun _ => fun
  | [d1, d2] => { results := [.lit (.bool true)], args := [d1, d2] }
  | _ => none }
def endsPlayRow : OpenClaim := { program := "ytdhgmnnkbjhpaaa", sum := "afc6a7b8c88b7157617d58e55753dc6b64b53df568b8f9b015cc8da757742c78", func := "switchyard/switchyardlaw28.EndsPlay", spec := "endsPlay", unfollowed := true, recurses := true, apart := false }
def EndsPlaySaid : Prop := endsPlayRow.holds Try.pinned (OpenSpec.ofChange endsPlaySpec)

/-- ITS FALSE NEIGHBOUR: 'it returns false'. Refute it at one input. -/
def endsPlayWrong : ChangeSpec := { name := "endsPlay", fn := fun _ => fun
  | [d1, d2] => { results := [.lit (.bool false)], args := [d1, d2] }
  | _ => none }
def EndsPlayWrongFalsely : Prop := endsPlayRow.holds Try.pinned (OpenSpec.ofChange endsPlayWrong)

/-- 'switchyardlaw28.EndsNobody': WHATEVER THE INPUT: true; the input reads as it did. -/
def endsNobodySpec : ChangeSpec := { name := "endsNobody", fn := fun _ => fun
  | [d] => { results := [.lit (.bool true)], args := [d] }
  | _ => none }
def endsNobodyRow : OpenClaim := { program := "ytdhgmnnkbjhpaaa", sum := "afc6a7b8c88b7157617d58e55753dc6b64b53df568b8f9b015cc8da757742c78", func := "switchyard/switchyardlaw28.EndsNobody", spec := "endsNobody", unfollowed := true, recurses := true, apart := false }
def EndsNobodySaid : Prop := endsNobodyRow.holds Try.pinned (OpenSpec.ofChange endsNobodySpec)

/-- ITS FALSE NEIGHBOUR: 'it returns false'. Refute it at one input. -/
def endsNobodyWrong : ChangeSpec := { name := "endsNobody", fn := fun _ => fun
  | [d] => { results := [.lit (.bool false)], args := [d] }
  | _ => none }
def EndsNobodyWrongFalsely : Prop := endsNobodyRow.holds Try.pinned (OpenSpec.ofChange endsNobodyWrong)

/- THE SECOND FORM. 'bulk': how many values and letters a reading holds, each counted each time it is reached (what is shared counts as often as it is met; a slice's spare places count too). A statement '..UptoSaid' is the law's where the arguments, and the package variables that the reading takes, are together of bulk at most 1048576: NARROWER than '..Said'. Prove '..Said' where nothing that the law and all that it calls make is longer than what came in: it says more and counts as full. Else prove '..UptoSaid'. A law counts once. -/
mutual
def uptoBulk {H : Type} : DataW H → Nat
  | .lit (.string bytes) => bytes.length + 1
  | .lit _ => 1
  | .nil => 1
  | .ptr d => uptoBulk d + 1
  | .slice elems spare => uptoBulkAll elems + uptoBulkAll spare + 1
  | .agg parts => uptoBulkAll parts + 1
  | .iface _ d => uptoBulk d + 1
  | .map entries => uptoBulkEntries entries + 1
  | .held _ => 1
def uptoBulkAll {H : Type} : List (DataW H) → Nat
  | [] => 0
  | d :: r => uptoBulk d + uptoBulkAll r
def uptoBulkEntries {H : Type} : List (Lit × DataW H) → Nat
  | [] => 0
  | x :: r => uptoBulkEntry x + uptoBulkEntries r
def uptoBulkEntry {H : Type} : Lit × DataW H → Nat
  | (.string bytes, d) => bytes.length + uptoBulk d + 1
  | (_, d) => uptoBulk d + 1
 end
def uptoSmall : (H : Type) → List (DataW H) → Bool := fun _ ds => decide (uptoBulkAll ds ≤ 1048576)
def OpenSpec.upto (s : _root_.Go.ChangeSpec) : _root_.Go.OpenSpec := { _root_.Go.OpenSpec.ofChange s with cond := some uptoSmall }

/-- 'switchyardlaw28.EndsOrder', WHERE WHAT IT READS IS OF BULK AT MOST 1048576: true; the input reads as it did. -/
def endsOrderUptoRow : OpenClaim := { program := "ytdhgmnnkbjhpaaa", sum := "afc6a7b8c88b7157617d58e55753dc6b64b53df568b8f9b015cc8da757742c78", func := "switchyard/switchyardlaw28.EndsOrder", spec := "endsOrder", unfollowed := true, recurses := true, apart := false, narrowed := true }
def EndsOrderUptoSaid : Prop := endsOrderUptoRow.holds Try.pinned (OpenSpec.upto endsOrderSpec)

/-- 'switchyardlaw28.EndsApart', WHERE WHAT IT READS IS OF BULK AT MOST 1048576: true; the input reads as it did. -/
def endsApartUptoRow : OpenClaim := { program := "ytdhgmnnkbjhpaaa", sum := "afc6a7b8c88b7157617d58e55753dc6b64b53df568b8f9b015cc8da757742c78", func := "switchyard/switchyardlaw28.EndsApart", spec := "endsApart", unfollowed := true, recurses := true, apart := false, narrowed := true }
def EndsApartUptoSaid : Prop := endsApartUptoRow.holds Try.pinned (OpenSpec.upto endsApartSpec)

/-- 'switchyardlaw28.EndsFull', WHERE WHAT IT READS IS OF BULK AT MOST 1048576: true; the input reads as it did. -/
def endsFullUptoRow : OpenClaim := { program := "ytdhgmnnkbjhpaaa", sum := "afc6a7b8c88b7157617d58e55753dc6b64b53df568b8f9b015cc8da757742c78", func := "switchyard/switchyardlaw28.EndsFull", spec := "endsFull", unfollowed := true, recurses := true, apart := false, narrowed := true }
def EndsFullUptoSaid : Prop := endsFullUptoRow.holds Try.pinned (OpenSpec.upto endsFullSpec)

/-- 'switchyardlaw29.NamesFull', WHERE WHAT IT READS IS OF BULK AT MOST 1048576: true; the input reads as it did. -/
def namesFullUptoRow : OpenClaim := { program := "ytdhgmnnkbjhpaaa", sum := "afc6a7b8c88b7157617d58e55753dc6b64b53df568b8f9b015cc8da757742c78", func := "switchyard/switchyardlaw29.NamesFull", spec := "namesFull", unfollowed := true, recurses := true, apart := false, narrowed := true }
def NamesFullUptoSaid : Prop := namesFullUptoRow.holds Try.pinned (OpenSpec.upto namesFullSpec)

/-- 'switchyardlaw29.NamesPlay', WHERE WHAT IT READS IS OF BULK AT MOST 1048576: true; the input reads as it did. -/
def namesPlayUptoRow : OpenClaim := { program := "ytdhgmnnkbjhpaaa", sum := "afc6a7b8c88b7157617d58e55753dc6b64b53df568b8f9b015cc8da757742c78", func := "switchyard/switchyardlaw29.NamesPlay", spec := "namesPlay", unfollowed := true, recurses := true, apart := false, narrowed := true }
def NamesPlayUptoSaid : Prop := namesPlayUptoRow.holds Try.pinned (OpenSpec.upto namesPlaySpec)

/-- 'switchyardlaw29.NamesFirst', WHERE WHAT IT READS IS OF BULK AT MOST 1048576: true; the input reads as it did. -/
def namesFirstUptoRow : OpenClaim := { program := "ytdhgmnnkbjhpaaa", sum := "afc6a7b8c88b7157617d58e55753dc6b64b53df568b8f9b015cc8da757742c78", func := "switchyard/switchyardlaw29.NamesFirst", spec := "namesFirst", unfollowed := true, recurses := true, apart := false, narrowed := true }
def NamesFirstUptoSaid : Prop := namesFirstUptoRow.holds Try.pinned (OpenSpec.upto namesFirstSpec)

/-- 'switchyardlaw29.NamesNobody', WHERE WHAT IT READS IS OF BULK AT MOST 1048576: true; the input reads as it did. -/
def namesNobodyUptoRow : OpenClaim := { program := "ytdhgmnnkbjhpaaa", sum := "afc6a7b8c88b7157617d58e55753dc6b64b53df568b8f9b015cc8da757742c78", func := "switchyard/switchyardlaw29.NamesNobody", spec := "namesNobody", unfollowed := true, recurses := true, apart := false, narrowed := true }
def NamesNobodyUptoSaid : Prop := namesNobodyUptoRow.holds Try.pinned (OpenSpec.upto namesNobodySpec)

/-- 'switchyardlaw28.EndsPlay', WHERE WHAT IT READS IS OF BULK AT MOST 1048576: true; the input reads as it did. -/
def endsPlayUptoRow : OpenClaim := { program := "ytdhgmnnkbjhpaaa", sum := "afc6a7b8c88b7157617d58e55753dc6b64b53df568b8f9b015cc8da757742c78", func := "switchyard/switchyardlaw28.EndsPlay", spec := "endsPlay", unfollowed := true, recurses := true, apart := false, narrowed := true }
def EndsPlayUptoSaid : Prop := endsPlayUptoRow.holds Try.pinned (OpenSpec.upto endsPlaySpec)

/-- 'switchyardlaw28.EndsNobody', WHERE WHAT IT READS IS OF BULK AT MOST 1048576: true; the input reads as it did. -/
def endsNobodyUptoRow : OpenClaim := { program := "ytdhgmnnkbjhpaaa", sum := "afc6a7b8c88b7157617d58e55753dc6b64b53df568b8f9b015cc8da757742c78", func := "switchyard/switchyardlaw28.EndsNobody", spec := "endsNobody", unfollowed := true, recurses := true, apart := false, narrowed := true }
def EndsNobodyUptoSaid : Prop := endsNobodyUptoRow.holds Try.pinned (OpenSpec.upto endsNobodySpec)

end Rows
end Go.Proofs.Ytdhgmnnkbjhpaaa
