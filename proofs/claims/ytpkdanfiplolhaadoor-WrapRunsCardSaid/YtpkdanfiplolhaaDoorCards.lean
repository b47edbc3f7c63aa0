/-
  DERIVED. GIVEN WITH THE SEED: THE CARDS: each row of YtpkdanfiplolhaaDoorRows.lean that lists a variable, with what it lists TIED to the program's text (the seventh form; the later family's looks); each row that meets fmt, with fmt's text TOLD by the authors' own Lean function (tested against real Go, not proved from fmt's source: count such statements apart). THE CARD IS WHAT COUNTS. Prove the row's statement (the work); the ties are given (YtpkdanfiplolhaaDoorTie.lean); close each card by the builder's one call (the guide's Derived/Test/ToyasCard.lean, 'card_holds'). Laid BY PROGRAM, IN A SANDBOX (cutbox-door.mjs). By AI agents, Wed Nov 11 2026. No macro, syntax, notation, axiom, sorry.
-/
import Derived.Test.YtpkdanfiplolhaaDoorRows
import GoSem.ClaimSeven
namespace Go.Proofs.YtpkdanfiplolhaaDoor
namespace Rows

/-- THE TIED CARD OF 'switchyardlaw01.WrapRuns'. -/
def wrapRunsCard : Claim7 := { stood := { row := wrapRunsRow, standIns := [], harness := (true, "665bcc40525215bcdc880720102b21539077008a5f0c3367cd1a06bb8174af4a"), looks := false }, kinds := [], alts := [], laidByText := true, laidKinds := [.data], laidTests := true, laidLooks := .later }
def WrapRunsCardSaid : Prop := Claim7.holds Tryd.pinned (.plain (OpenSpec.ofChange wrapRunsSpec)) wrapRunsCard

/-- THE SECOND FORM's CARD OF 'switchyardlaw01.WrapRuns'. -/
def wrapRunsUptoCard : Claim7 := { stood := { row := wrapRunsUptoRow, standIns := [], harness := (true, "665bcc40525215bcdc880720102b21539077008a5f0c3367cd1a06bb8174af4a"), looks := false }, kinds := [], alts := [], laidByText := true, laidKinds := [.data], laidTests := true, laidLooks := .later }
def WrapRunsUptoCardSaid : Prop := Claim7.holds Tryd.pinned (.plain (OpenSpec.upto wrapRunsSpec)) wrapRunsUptoCard
end Rows
end Go.Proofs.YtpkdanfiplolhaaDoor
