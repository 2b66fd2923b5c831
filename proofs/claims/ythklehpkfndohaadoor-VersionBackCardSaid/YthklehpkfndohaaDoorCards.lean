/-
  DERIVED. GIVEN WITH THE SEED: THE CARDS: each row of YthklehpkfndohaaDoorRows.lean that lists a variable, with what it lists TIED to the program's text (the seventh form; the later family's looks); each row that meets fmt, with fmt's text TOLD by the authors' own Lean function (tested against real Go, not proved from fmt's source: count such statements apart). THE CARD IS WHAT COUNTS. Prove the row's statement (the work); the ties are given (YthklehpkfndohaaDoorTie.lean); close each card by the builder's one call (the guide's Derived/Test/ToyasCard.lean, 'card_holds'). Laid BY PROGRAM, IN A SANDBOX (cutbox-door.mjs). By AI agents, Wed Nov 11 2026. No macro, syntax, notation, axiom, sorry.
-/
import Derived.Test.YthklehpkfndohaaDoorRows
import GoSem.ClaimSeven
namespace Go.Proofs.YthklehpkfndohaaDoor
namespace Rows

/-- THE TIED CARD OF 'stratalaw10.VersionBack'. -/
def versionBackCard : Claim7 := { stood := { row := versionBackRow, standIns := [], harness := (true, "f462f19d4638f306eddcfbcb42a125b7e8abfadee6d7c86b24fb33df6c66704e"), looks := false }, kinds := [], alts := [], laidByText := true, laidKinds := [.data], laidTests := true, laidLooks := .later }
def VersionBackCardSaid : Prop := Claim7.holds Tryd.pinned (.plain (OpenSpec.ofChange versionBackSpec)) versionBackCard

/-- THE TIED CARD OF 'stratalaw10.VersionMany'. -/
def versionManyCard : Claim7 := { stood := { row := versionManyRow, standIns := [], harness := (true, "f462f19d4638f306eddcfbcb42a125b7e8abfadee6d7c86b24fb33df6c66704e"), looks := false }, kinds := [], alts := [], laidByText := true, laidKinds := [.data], laidTests := true, laidLooks := .later }
def VersionManyCardSaid : Prop := Claim7.holds Tryd.pinned (.plain (OpenSpec.ofChange versionManySpec)) versionManyCard

/-- THE SECOND FORM's CARD OF 'stratalaw10.VersionBack'. -/
def versionBackUptoCard : Claim7 := { stood := { row := versionBackUptoRow, standIns := [], harness := (true, "f462f19d4638f306eddcfbcb42a125b7e8abfadee6d7c86b24fb33df6c66704e"), looks := false }, kinds := [], alts := [], laidByText := true, laidKinds := [.data], laidTests := true, laidLooks := .later }
def VersionBackUptoCardSaid : Prop := Claim7.holds Tryd.pinned (.plain (OpenSpec.upto versionBackSpec)) versionBackUptoCard

/-- THE SECOND FORM's CARD OF 'stratalaw10.VersionMany'. -/
def versionManyUptoCard : Claim7 := { stood := { row := versionManyUptoRow, standIns := [], harness := (true, "f462f19d4638f306eddcfbcb42a125b7e8abfadee6d7c86b24fb33df6c66704e"), looks := false }, kinds := [], alts := [], laidByText := true, laidKinds := [.data], laidTests := true, laidLooks := .later }
def VersionManyUptoCardSaid : Prop := Claim7.holds Tryd.pinned (.plain (OpenSpec.upto versionManySpec)) versionManyUptoCard
end Rows
end Go.Proofs.YthklehpkfndohaaDoor
