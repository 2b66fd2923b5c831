/-
  DERIVED. GIVEN WITH THE SEED: THE CARDS: each row of YtgaidmohdhaonaaDoorRows.lean that lists a variable, with what it lists TIED to the program's text (the seventh form; the later family's looks); each row that meets fmt, with fmt's text TOLD by the authors' own Lean function (tested against real Go, not proved from fmt's source: count such statements apart). THE CARD IS WHAT COUNTS. Prove the row's statement (the work); the ties are given (YtgaidmohdhaonaaDoorTie.lean); close each card by the builder's one call (the guide's Derived/Test/ToyasCard.lean, 'card_holds'). Laid BY PROGRAM, IN A SANDBOX (cutbox-door.mjs). By AI agents, Wed Nov 11 2026. No macro, syntax, notation, axiom, sorry.
-/
import Derived.Test.YtgaidmohdhaonaaDoorRows
import GoSem.ClaimSeven
namespace Go.Proofs.YtgaidmohdhaonaaDoor
namespace Rows

/-- THE TIED CARD OF 'stratalaw10.VersionTells'. -/
def versionTellsCard : Claim7 := { stood := { row := versionTellsRow, standIns := [], harness := (true, "30064d5d7c6b2da34bb6e17f15990814e9e9a85f0ae0c17afe059498ae4613ed"), looks := false }, kinds := [], alts := [], laidByText := true, laidKinds := [.data], laidTests := true, laidLooks := .later }
def VersionTellsCardSaid : Prop := Claim7.holds Tryd.pinned (.plain (OpenSpec.ofChange versionTellsSpec)) versionTellsCard

/-- THE SECOND FORM's CARD OF 'stratalaw10.VersionTells'. -/
def versionTellsUptoCard : Claim7 := { stood := { row := versionTellsUptoRow, standIns := [], harness := (true, "30064d5d7c6b2da34bb6e17f15990814e9e9a85f0ae0c17afe059498ae4613ed"), looks := false }, kinds := [], alts := [], laidByText := true, laidKinds := [.data], laidTests := true, laidLooks := .later }
def VersionTellsUptoCardSaid : Prop := Claim7.holds Tryd.pinned (.plain (OpenSpec.upto versionTellsSpec)) versionTellsUptoCard
end Rows
end Go.Proofs.YtgaidmohdhaonaaDoor
