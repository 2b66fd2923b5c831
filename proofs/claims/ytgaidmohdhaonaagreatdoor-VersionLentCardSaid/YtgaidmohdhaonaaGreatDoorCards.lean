/-
  DERIVED. GIVEN WITH THE SEED: THE CARDS: each row of YtgaidmohdhaonaaGreatDoorRows.lean that lists a variable, with what it lists TIED to the program's text (the seventh form; the later family's looks); each row that meets fmt, with fmt's text TOLD by the authors' own Lean function (tested against real Go, not proved from fmt's source: count such statements apart). THE CARD IS WHAT COUNTS. Prove the row's statement (the work); the ties are given (YtgaidmohdhaonaaGreatDoorTie.lean); close each card by the builder's one call (the guide's Derived/Test/ToyasCard.lean, 'card_holds'). Laid BY PROGRAM, IN A SANDBOX (cutbox-door.mjs). By AI agents, Wed Nov 11 2026. No macro, syntax, notation, axiom, sorry.
-/
import Derived.Test.YtgaidmohdhaonaaGreatDoorRows
import GoSem.ClaimSeven
namespace Go.Proofs.YtgaidmohdhaonaaGreatDoor
namespace Rows

/-- THE TIED CARD OF 'stratalaw10.VersionOwn'. -/
def versionOwnCard : Claim7 := { stood := { row := versionOwnRow, standIns := [], harness := (true, "31d59154a66d5b30ebbd705036ef52860d653482b21348adeb0cf670c74a3dc2"), looks := false }, kinds := [], alts := [], laidByText := true, laidKinds := [.data], laidTests := true, laidLooks := .later }
def VersionOwnCardSaid : Prop := Claim7.holds Tryz.pinned (.plain (OpenSpec.ofChange versionOwnSpec)) versionOwnCard

/-- THE TIED CARD OF 'stratalaw10.VersionAgain'. -/
def versionAgainCard : Claim7 := { stood := { row := versionAgainRow, standIns := [], harness := (true, "31d59154a66d5b30ebbd705036ef52860d653482b21348adeb0cf670c74a3dc2"), looks := false }, kinds := [], alts := [], laidByText := true, laidKinds := [.data], laidTests := true, laidLooks := .later }
def VersionAgainCardSaid : Prop := Claim7.holds Tryz.pinned (.plain (OpenSpec.ofChange versionAgainSpec)) versionAgainCard

/-- THE TIED CARD OF 'stratalaw10.ManifestFull'. -/
def manifestFullCard : Claim7 := { stood := { row := manifestFullRow, standIns := [], harness := (true, "31d59154a66d5b30ebbd705036ef52860d653482b21348adeb0cf670c74a3dc2"), looks := false }, kinds := [], alts := [], laidByText := true, laidKinds := [.data], laidTests := true, laidLooks := .later }
def ManifestFullCardSaid : Prop := Claim7.holds Tryz.pinned (.plain (OpenSpec.ofChange manifestFullSpec)) manifestFullCard

/-- THE TIED CARD OF 'stratalaw10.ManifestStroke'. -/
def manifestStrokeCard : Claim7 := { stood := { row := manifestStrokeRow, standIns := [], harness := (true, "31d59154a66d5b30ebbd705036ef52860d653482b21348adeb0cf670c74a3dc2"), looks := false }, kinds := [], alts := [], laidByText := true, laidKinds := [.data], laidTests := true, laidLooks := .later }
def ManifestStrokeCardSaid : Prop := Claim7.holds Tryz.pinned (.plain (OpenSpec.ofChange manifestStrokeSpec)) manifestStrokeCard

/-- THE TIED CARD OF 'stratalaw10.ManifestSweeps'. -/
def manifestSweepsCard : Claim7 := { stood := { row := manifestSweepsRow, standIns := [], harness := (true, "31d59154a66d5b30ebbd705036ef52860d653482b21348adeb0cf670c74a3dc2"), looks := false }, kinds := [], alts := [], laidByText := true, laidKinds := [.data, .data, .data, .data], laidTests := true, laidLooks := .later }
def ManifestSweepsCardSaid : Prop := Claim7.holds Tryz.pinned (.plain (OpenSpec.ofChange manifestSweepsSpec)) manifestSweepsCard

/-- THE TIED CARD OF 'stratalaw10.VersionLent'. -/
def versionLentCard : Claim7 := { stood := { row := versionLentRow, standIns := [], harness := (true, "31d59154a66d5b30ebbd705036ef52860d653482b21348adeb0cf670c74a3dc2"), looks := false }, kinds := [], alts := [], laidByText := true, laidKinds := [.data, .data, .data, .data], laidTests := true, laidLooks := .later }
def VersionLentCardSaid : Prop := Claim7.holds Tryz.pinned (.plain (OpenSpec.ofChange versionLentSpec)) versionLentCard

/-- THE TIED CARD OF 'stratalaw10.ManifestPlays'. -/
def manifestPlaysCard : Claim7 := { stood := { row := manifestPlaysRow, standIns := [], harness := (true, "31d59154a66d5b30ebbd705036ef52860d653482b21348adeb0cf670c74a3dc2"), looks := false }, kinds := [], alts := [], laidByText := true, laidKinds := [.data, .data, .data, .data], laidTests := true, laidLooks := .later }
def ManifestPlaysCardSaid : Prop := Claim7.holds Tryz.pinned (.plain (OpenSpec.ofChange manifestPlaysSpec)) manifestPlaysCard

/-- THE SECOND FORM's CARD OF 'stratalaw10.VersionOwn'. -/
def versionOwnUptoCard : Claim7 := { stood := { row := versionOwnUptoRow, standIns := [], harness := (true, "31d59154a66d5b30ebbd705036ef52860d653482b21348adeb0cf670c74a3dc2"), looks := false }, kinds := [], alts := [], laidByText := true, laidKinds := [.data], laidTests := true, laidLooks := .later }
def VersionOwnUptoCardSaid : Prop := Claim7.holds Tryz.pinned (.plain (OpenSpec.upto versionOwnSpec)) versionOwnUptoCard

/-- THE SECOND FORM's CARD OF 'stratalaw10.VersionAgain'. -/
def versionAgainUptoCard : Claim7 := { stood := { row := versionAgainUptoRow, standIns := [], harness := (true, "31d59154a66d5b30ebbd705036ef52860d653482b21348adeb0cf670c74a3dc2"), looks := false }, kinds := [], alts := [], laidByText := true, laidKinds := [.data], laidTests := true, laidLooks := .later }
def VersionAgainUptoCardSaid : Prop := Claim7.holds Tryz.pinned (.plain (OpenSpec.upto versionAgainSpec)) versionAgainUptoCard

/-- THE SECOND FORM's CARD OF 'stratalaw10.ManifestFull'. -/
def manifestFullUptoCard : Claim7 := { stood := { row := manifestFullUptoRow, standIns := [], harness := (true, "31d59154a66d5b30ebbd705036ef52860d653482b21348adeb0cf670c74a3dc2"), looks := false }, kinds := [], alts := [], laidByText := true, laidKinds := [.data], laidTests := true, laidLooks := .later }
def ManifestFullUptoCardSaid : Prop := Claim7.holds Tryz.pinned (.plain (OpenSpec.upto manifestFullSpec)) manifestFullUptoCard

/-- THE SECOND FORM's CARD OF 'stratalaw10.ManifestStroke'. -/
def manifestStrokeUptoCard : Claim7 := { stood := { row := manifestStrokeUptoRow, standIns := [], harness := (true, "31d59154a66d5b30ebbd705036ef52860d653482b21348adeb0cf670c74a3dc2"), looks := false }, kinds := [], alts := [], laidByText := true, laidKinds := [.data], laidTests := true, laidLooks := .later }
def ManifestStrokeUptoCardSaid : Prop := Claim7.holds Tryz.pinned (.plain (OpenSpec.upto manifestStrokeSpec)) manifestStrokeUptoCard

/-- THE SECOND FORM's CARD OF 'stratalaw10.ManifestSweeps'. -/
def manifestSweepsUptoCard : Claim7 := { stood := { row := manifestSweepsUptoRow, standIns := [], harness := (true, "31d59154a66d5b30ebbd705036ef52860d653482b21348adeb0cf670c74a3dc2"), looks := false }, kinds := [], alts := [], laidByText := true, laidKinds := [.data, .data, .data, .data], laidTests := true, laidLooks := .later }
def ManifestSweepsUptoCardSaid : Prop := Claim7.holds Tryz.pinned (.plain (OpenSpec.upto manifestSweepsSpec)) manifestSweepsUptoCard

/-- THE SECOND FORM's CARD OF 'stratalaw10.VersionLent'. -/
def versionLentUptoCard : Claim7 := { stood := { row := versionLentUptoRow, standIns := [], harness := (true, "31d59154a66d5b30ebbd705036ef52860d653482b21348adeb0cf670c74a3dc2"), looks := false }, kinds := [], alts := [], laidByText := true, laidKinds := [.data, .data, .data, .data], laidTests := true, laidLooks := .later }
def VersionLentUptoCardSaid : Prop := Claim7.holds Tryz.pinned (.plain (OpenSpec.upto versionLentSpec)) versionLentUptoCard

/-- THE SECOND FORM's CARD OF 'stratalaw10.ManifestPlays'. -/
def manifestPlaysUptoCard : Claim7 := { stood := { row := manifestPlaysUptoRow, standIns := [], harness := (true, "31d59154a66d5b30ebbd705036ef52860d653482b21348adeb0cf670c74a3dc2"), looks := false }, kinds := [], alts := [], laidByText := true, laidKinds := [.data, .data, .data, .data], laidTests := true, laidLooks := .later }
def ManifestPlaysUptoCardSaid : Prop := Claim7.holds Tryz.pinned (.plain (OpenSpec.upto manifestPlaysSpec)) manifestPlaysUptoCard
end Rows
end Go.Proofs.YtgaidmohdhaonaaGreatDoor
