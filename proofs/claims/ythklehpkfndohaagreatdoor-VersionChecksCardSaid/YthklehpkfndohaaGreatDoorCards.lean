/-
  DERIVED. GIVEN WITH THE SEED: THE CARDS: each row of YthklehpkfndohaaGreatDoorRows.lean that lists a variable, with what it lists TIED to the program's text (the seventh form; the later family's looks); each row that meets fmt, with fmt's text TOLD by the authors' own Lean function (tested against real Go, not proved from fmt's source: count such statements apart). THE CARD IS WHAT COUNTS. Prove the row's statement (the work); the ties are given (YthklehpkfndohaaGreatDoorTie.lean); close each card by the builder's one call (the guide's Derived/Test/ToyasCard.lean, 'card_holds'). Laid BY PROGRAM, IN A SANDBOX (cutbox-door.mjs). By AI agents, Wed Nov 11 2026. No macro, syntax, notation, axiom, sorry.
-/
import Derived.Test.YthklehpkfndohaaGreatDoorRows
import GoSem.ClaimSeven
namespace Go.Proofs.YthklehpkfndohaaGreatDoor
namespace Rows

/-- THE TIED CARD OF 'stratalaw10.VersionReads'. -/
def versionReadsCard : Claim7 := { stood := { row := versionReadsRow, standIns := [], harness := (true, "2c8b1be9c32218a8313142b517c27d8a12946d0ef269ce252a14098b5b6c538a"), looks := false }, kinds := [], alts := [], laidByText := true, laidKinds := [.data], laidTests := true, laidLooks := .later }
def VersionReadsCardSaid : Prop := Claim7.holds Tryz.pinned (.plain (OpenSpec.ofChange versionReadsSpec)) versionReadsCard

/-- THE TIED CARD OF 'stratalaw10.VersionChecks'. -/
def versionChecksCard : Claim7 := { stood := { row := versionChecksRow, standIns := [], harness := (true, "2c8b1be9c32218a8313142b517c27d8a12946d0ef269ce252a14098b5b6c538a"), looks := false }, kinds := [], alts := [], laidByText := true, laidKinds := [.data, .data, .data, .data], laidTests := true, laidLooks := .later }
def VersionChecksCardSaid : Prop := Claim7.holds Tryz.pinned (.plain (OpenSpec.ofChange versionChecksSpec)) versionChecksCard

/-- THE SECOND FORM's CARD OF 'stratalaw10.VersionReads'. -/
def versionReadsUptoCard : Claim7 := { stood := { row := versionReadsUptoRow, standIns := [], harness := (true, "2c8b1be9c32218a8313142b517c27d8a12946d0ef269ce252a14098b5b6c538a"), looks := false }, kinds := [], alts := [], laidByText := true, laidKinds := [.data], laidTests := true, laidLooks := .later }
def VersionReadsUptoCardSaid : Prop := Claim7.holds Tryz.pinned (.plain (OpenSpec.upto versionReadsSpec)) versionReadsUptoCard

/-- THE SECOND FORM's CARD OF 'stratalaw10.VersionChecks'. -/
def versionChecksUptoCard : Claim7 := { stood := { row := versionChecksUptoRow, standIns := [], harness := (true, "2c8b1be9c32218a8313142b517c27d8a12946d0ef269ce252a14098b5b6c538a"), looks := false }, kinds := [], alts := [], laidByText := true, laidKinds := [.data, .data, .data, .data], laidTests := true, laidLooks := .later }
def VersionChecksUptoCardSaid : Prop := Claim7.holds Tryz.pinned (.plain (OpenSpec.upto versionChecksSpec)) versionChecksUptoCard
end Rows
end Go.Proofs.YthklehpkfndohaaGreatDoor
