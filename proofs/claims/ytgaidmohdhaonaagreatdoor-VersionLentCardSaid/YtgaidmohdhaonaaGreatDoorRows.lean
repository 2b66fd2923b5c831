/-
  NARROWER THAN 'FOR EVERY INPUT', by the rows' own cells (each row's printed sentence says how): VersionOwn: laid · VersionAgain: laid · ManifestFull: laid · ManifestStroke: laid · ManifestSweeps: laid · VersionLent: laid · ManifestPlays: laid.
  DERIVED. THE GIVEN ROWS OF THIS SEAT. 7 by the template 'for every input the law returns true; each argument reads behind the call as it read before'; 0 by the template 'total and deterministic' (their statements: YtgaidmohdhaonaaGreatDoorTotals.lean).
  GIVEN WITH THE SEED: the statements are not yours to turn. If you find one false, say at which input.
  Laid BY PROGRAM, IN A SANDBOX (cutbox-rows.mjs): the forced cells as the released guide's own fill.sh prints them over the translation 8ab3cc17ef175a26… (all of the seat's roots in one cut). By AI agents, Wed Nov 11 2026. No macro, syntax, notation, axiom, sorry.
-/
import Derived.Test.YtgaidmohdhaonaaGreatDoorChecked
import GoSem.Claim
import GoSem.ClaimJoined
import GoSem.ClaimMapViews
import Derived.JoinedTies
import Derived.KernelRfl
namespace Go.Proofs.YtgaidmohdhaonaaGreatDoor
/- THE CELL 'sum', in the pinned program and in every row, IS THE sha256 OF THE DUMP (.gsa) THAT YtgaidmohdhaonaaGreatDoorProg.lean LOADS. Nothing in Lean hashes anything: it is a label: what it is worth is what the hold of that sum in a sandbox is worth. -/
noncomputable def Tryz.pinned : Pinned := { name := "ytgaidmohdhaonaagreatdoor", sum := "8ab3cc17ef175a26318abc408cdd060453cd5f7ba65907b5a7a77b83ffb9f2ae", checked := Tryz.checked }
namespace Rows
def none {H : Type} : Left H := { results := [], args := [] }

/- WHAT THE LISTED PACKAGE-LEVEL VARIABLES READ AS WHEN THE CALL BEGINS. Each datum BY PROGRAM (the guide's laid-datum.mjs) off the statement by which the dump's own 'gosem.cut.vars' lays the variable. In a bare row this is a premise. The card (YtgaidmohdhaonaaGreatDoorCards.lean) ties it to the program's text. -/
def laid_strata_wire_table {H : Type} : DataW H := .agg [.lit (.int .u32 0), .lit (.int .u32 274646895), .lit (.int .u32 549293790), .lit (.int .u32 820201905), .lit (.int .u32 1098587580), .lit (.int .u32 1361435347), .lit (.int .u32 1640403810), .lit (.int .u32 1905808397), .lit (.int .u32 2197175160), .lit (.int .u32 2460548119), .lit (.int .u32 2722870694), .lit (.int .u32 2987750089), .lit (.int .u32 3280807620), .lit (.int .u32 3553878443), .lit (.int .u32 3811616794), .lit (.int .u32 4084100981)]
def laid_math_bits_deBruijn32tab {H : Type} : DataW H := .agg [.lit (.int .u8 0), .lit (.int .u8 1), .lit (.int .u8 28), .lit (.int .u8 2), .lit (.int .u8 29), .lit (.int .u8 14), .lit (.int .u8 24), .lit (.int .u8 3), .lit (.int .u8 30), .lit (.int .u8 22), .lit (.int .u8 20), .lit (.int .u8 15), .lit (.int .u8 25), .lit (.int .u8 17), .lit (.int .u8 4), .lit (.int .u8 8), .lit (.int .u8 31), .lit (.int .u8 27), .lit (.int .u8 13), .lit (.int .u8 23), .lit (.int .u8 21), .lit (.int .u8 19), .lit (.int .u8 16), .lit (.int .u8 7), .lit (.int .u8 26), .lit (.int .u8 12), .lit (.int .u8 18), .lit (.int .u8 6), .lit (.int .u8 11), .lit (.int .u8 5), .lit (.int .u8 10), .lit (.int .u8 9)]
def laid_math_bits_deBruijn64tab {H : Type} : DataW H := .agg [.lit (.int .u8 0), .lit (.int .u8 1), .lit (.int .u8 56), .lit (.int .u8 2), .lit (.int .u8 57), .lit (.int .u8 49), .lit (.int .u8 28), .lit (.int .u8 3), .lit (.int .u8 61), .lit (.int .u8 58), .lit (.int .u8 42), .lit (.int .u8 50), .lit (.int .u8 38), .lit (.int .u8 29), .lit (.int .u8 17), .lit (.int .u8 4), .lit (.int .u8 62), .lit (.int .u8 47), .lit (.int .u8 59), .lit (.int .u8 36), .lit (.int .u8 45), .lit (.int .u8 43), .lit (.int .u8 51), .lit (.int .u8 22), .lit (.int .u8 53), .lit (.int .u8 39), .lit (.int .u8 33), .lit (.int .u8 30), .lit (.int .u8 24), .lit (.int .u8 18), .lit (.int .u8 12), .lit (.int .u8 5), .lit (.int .u8 63), .lit (.int .u8 55), .lit (.int .u8 48), .lit (.int .u8 27), .lit (.int .u8 60), .lit (.int .u8 41), .lit (.int .u8 37), .lit (.int .u8 16), .lit (.int .u8 46), .lit (.int .u8 35), .lit (.int .u8 44), .lit (.int .u8 21), .lit (.int .u8 52), .lit (.int .u8 32), .lit (.int .u8 23), .lit (.int .u8 11), .lit (.int .u8 54), .lit (.int .u8 26), .lit (.int .u8 40), .lit (.int .u8 15), .lit (.int .u8 34), .lit (.int .u8 20), .lit (.int .u8 31), .lit (.int .u8 10), .lit (.int .u8 25), .lit (.int .u8 14), .lit (.int .u8 19), .lit (.int .u8 9), .lit (.int .u8 13), .lit (.int .u8 8), .lit (.int .u8 7), .lit (.int .u8 6)]
def laid_internal_strconv_uint64pow10 {H : Type} : DataW H := .agg [.lit (.int .u64 1), .lit (.int .u64 10), .lit (.int .u64 100), .lit (.int .u64 1000), .lit (.int .u64 10000), .lit (.int .u64 100000), .lit (.int .u64 1000000), .lit (.int .u64 10000000), .lit (.int .u64 100000000), .lit (.int .u64 1000000000), .lit (.int .u64 10000000000), .lit (.int .u64 100000000000), .lit (.int .u64 1000000000000), .lit (.int .u64 10000000000000), .lit (.int .u64 100000000000000), .lit (.int .u64 1000000000000000), .lit (.int .u64 10000000000000000), .lit (.int .u64 100000000000000000), .lit (.int .u64 1000000000000000000), .lit (.int .u64 10000000000000000000)]

/-- 'stratalaw10.VersionOwn': WHATEVER THE INPUT: true; the input reads as it did. -/
def versionOwnSpec : ChangeSpec := { name := "versionOwn", fn := fun _ => fun
  | [d] => { results := [.lit (.bool true)], args := [d] }
  | _ => none }
def versionOwnRow : OpenClaim := { program := "ytgaidmohdhaonaagreatdoor", sum := "8ab3cc17ef175a26318abc408cdd060453cd5f7ba65907b5a7a77b83ffb9f2ae", func := "strata/stratalaw10.VersionOwn", spec := "versionOwn", inPlace := ["internal/bytealg.IndexByteString", "internal/bytealg.Compare"], unfollowed := true, recurses := true, named := ["strata/wire.table"], apart := false, laid := [("strata/wire.table", laid_strata_wire_table)] }
def VersionOwnSaid : Prop := versionOwnRow.holds Tryz.pinned (OpenSpec.ofChange versionOwnSpec)

/-- ITS FALSE NEIGHBOUR: 'it returns false'. Refute it at one input. -/
def versionOwnWrong : ChangeSpec := { name := "versionOwn", fn := fun _ => fun
  | [d] => { results := [.lit (.bool false)], args := [d] }
  | _ => none }
def VersionOwnWrongFalsely : Prop := versionOwnRow.holds Tryz.pinned (OpenSpec.ofChange versionOwnWrong)

/-- 'stratalaw10.VersionAgain': WHATEVER THE INPUT: true; the input reads as it did. -/
def versionAgainSpec : ChangeSpec := { name := "versionAgain", fn := fun _ => fun
  | [d1, d2, d3, d4, d5] => { results := [.lit (.bool true)], args := [d1, d2, d3, d4, d5] }
  | _ => none }
def versionAgainRow : OpenClaim := { program := "ytgaidmohdhaonaagreatdoor", sum := "8ab3cc17ef175a26318abc408cdd060453cd5f7ba65907b5a7a77b83ffb9f2ae", func := "strata/stratalaw10.VersionAgain", spec := "versionAgain", inPlace := ["internal/bytealg.Compare", "internal/bytealg.IndexByteString"], unfollowed := true, recurses := true, named := ["strata/wire.table"], apart := false, laid := [("strata/wire.table", laid_strata_wire_table)] }
def VersionAgainSaid : Prop := versionAgainRow.holds Tryz.pinned (OpenSpec.ofChange versionAgainSpec)

/-- ITS FALSE NEIGHBOUR: 'it returns false'. Refute it at one input. -/
def versionAgainWrong : ChangeSpec := { name := "versionAgain", fn := fun _ => fun
  | [d1, d2, d3, d4, d5] => { results := [.lit (.bool false)], args := [d1, d2, d3, d4, d5] }
  | _ => none }
def VersionAgainWrongFalsely : Prop := versionAgainRow.holds Tryz.pinned (OpenSpec.ofChange versionAgainWrong)

/-- 'stratalaw10.ManifestFull': WHATEVER THE INPUT: true; the input reads as it did. -/
def manifestFullSpec : ChangeSpec := { name := "manifestFull", fn := fun _ => fun
  | [d1, d2] => { results := [.lit (.bool true)], args := [d1, d2] }
  | _ => none }
def manifestFullRow : OpenClaim := { program := "ytgaidmohdhaonaagreatdoor", sum := "8ab3cc17ef175a26318abc408cdd060453cd5f7ba65907b5a7a77b83ffb9f2ae", func := "strata/stratalaw10.ManifestFull", spec := "manifestFull", inPlace := ["internal/bytealg.IndexByteString", "internal/bytealg.Compare"], unfollowed := true, recurses := true, named := ["strata/wire.table"], apart := false, laid := [("strata/wire.table", laid_strata_wire_table)] }
def ManifestFullSaid : Prop := manifestFullRow.holds Tryz.pinned (OpenSpec.ofChange manifestFullSpec)

/-- ITS FALSE NEIGHBOUR: 'it returns false'. Refute it at one input. -/
def manifestFullWrong : ChangeSpec := { name := "manifestFull", fn := fun _ => fun
  | [d1, d2] => { results := [.lit (.bool false)], args := [d1, d2] }
  | _ => none }
def ManifestFullWrongFalsely : Prop := manifestFullRow.holds Tryz.pinned (OpenSpec.ofChange manifestFullWrong)

/-- 'stratalaw10.ManifestStroke': WHATEVER THE INPUT: true; the input reads as it did. -/
def manifestStrokeSpec : ChangeSpec := { name := "manifestStroke", fn := fun _ => fun
  | [d1, d2, d3] => { results := [.lit (.bool true)], args := [d1, d2, d3] }
  | _ => none }
def manifestStrokeRow : OpenClaim := { program := "ytgaidmohdhaonaagreatdoor", sum := "8ab3cc17ef175a26318abc408cdd060453cd5f7ba65907b5a7a77b83ffb9f2ae", func := "strata/stratalaw10.ManifestStroke", spec := "manifestStroke", inPlace := ["internal/bytealg.IndexByteString", "internal/bytealg.Compare"], unfollowed := true, recurses := true, named := ["strata/wire.table"], apart := false, laid := [("strata/wire.table", laid_strata_wire_table)] }
def ManifestStrokeSaid : Prop := manifestStrokeRow.holds Tryz.pinned (OpenSpec.ofChange manifestStrokeSpec)

/-- ITS FALSE NEIGHBOUR: 'it returns false'. Refute it at one input. -/
def manifestStrokeWrong : ChangeSpec := { name := "manifestStroke", fn := fun _ => fun
  | [d1, d2, d3] => { results := [.lit (.bool false)], args := [d1, d2, d3] }
  | _ => none }
def ManifestStrokeWrongFalsely : Prop := manifestStrokeRow.holds Tryz.pinned (OpenSpec.ofChange manifestStrokeWrong)

/-- 'stratalaw10.ManifestSweeps': WHATEVER THE INPUT: true; the input reads as it did. -/
def manifestSweepsSpec : ChangeSpec := { name := "manifestSweeps", fn := fun _ => fun
  | [d1, d2, d3] => { results := [.lit (.bool true)], args := [d1, d2, d3] }
  | _ => none }
def manifestSweepsRow : OpenClaim := { program := "ytgaidmohdhaonaagreatdoor", sum := "8ab3cc17ef175a26318abc408cdd060453cd5f7ba65907b5a7a77b83ffb9f2ae", func := "strata/stratalaw10.ManifestSweeps", spec := "manifestSweeps", inPlace := ["internal/bytealg.IndexByteString", "internal/bytealg.Compare"], unfollowed := true, recurses := true, named := ["strata/wire.table", "internal/strconv.uint64pow10", "math/bits.deBruijn32tab", "math/bits.deBruijn64tab"], apart := false, laid := [("math/bits.deBruijn32tab", laid_math_bits_deBruijn32tab), ("math/bits.deBruijn64tab", laid_math_bits_deBruijn64tab), ("internal/strconv.uint64pow10", laid_internal_strconv_uint64pow10), ("strata/wire.table", laid_strata_wire_table)] }
def ManifestSweepsSaid : Prop := manifestSweepsRow.holds Tryz.pinned (OpenSpec.ofChange manifestSweepsSpec)

/-- ITS FALSE NEIGHBOUR: 'it returns false'. Refute it at one input. -/
def manifestSweepsWrong : ChangeSpec := { name := "manifestSweeps", fn := fun _ => fun
  | [d1, d2, d3] => { results := [.lit (.bool false)], args := [d1, d2, d3] }
  | _ => none }
def ManifestSweepsWrongFalsely : Prop := manifestSweepsRow.holds Tryz.pinned (OpenSpec.ofChange manifestSweepsWrong)

/-- 'stratalaw10.VersionLent': WHATEVER THE INPUT: true; the input reads as it did. -/
def versionLentSpec : ChangeSpec := { name := "versionLent", fn := fun _ => fun
  | [d1, d2] => { results := [.lit (.bool true)], args := [d1, d2] }
  | _ => none }
def versionLentRow : OpenClaim := { program := "ytgaidmohdhaonaagreatdoor", sum := "8ab3cc17ef175a26318abc408cdd060453cd5f7ba65907b5a7a77b83ffb9f2ae", func := "strata/stratalaw10.VersionLent", spec := "versionLent", inPlace := ["internal/bytealg.IndexByteString", "internal/bytealg.Compare"], unfollowed := true, recurses := true, named := ["strata/wire.table", "internal/strconv.uint64pow10", "math/bits.deBruijn32tab", "math/bits.deBruijn64tab"], apart := false, laid := [("math/bits.deBruijn32tab", laid_math_bits_deBruijn32tab), ("math/bits.deBruijn64tab", laid_math_bits_deBruijn64tab), ("internal/strconv.uint64pow10", laid_internal_strconv_uint64pow10), ("strata/wire.table", laid_strata_wire_table)] }
def VersionLentSaid : Prop := versionLentRow.holds Tryz.pinned (OpenSpec.ofChange versionLentSpec)

/-- ITS FALSE NEIGHBOUR: 'it returns false'. Refute it at one input. -/
def versionLentWrong : ChangeSpec := { name := "versionLent", fn := fun _ => fun
  | [d1, d2] => { results := [.lit (.bool false)], args := [d1, d2] }
  | _ => none }
def VersionLentWrongFalsely : Prop := versionLentRow.holds Tryz.pinned (OpenSpec.ofChange versionLentWrong)

/-- 'stratalaw10.ManifestPlays': WHATEVER THE INPUT: true; the input reads as it did. -/
def manifestPlaysSpec : ChangeSpec := { name := "manifestPlays", fn := fun _ => fun
  | [d1, d2, d3] => { results := [.lit (.bool true)], args := [d1, d2, d3] }
  | _ => none }
def manifestPlaysRow : OpenClaim := { program := "ytgaidmohdhaonaagreatdoor", sum := "8ab3cc17ef175a26318abc408cdd060453cd5f7ba65907b5a7a77b83ffb9f2ae", func := "strata/stratalaw10.ManifestPlays", spec := "manifestPlays", inPlace := ["internal/bytealg.IndexByteString", "internal/bytealg.Compare"], unfollowed := true, recurses := true, named := ["strata/wire.table", "internal/strconv.uint64pow10", "math/bits.deBruijn32tab", "math/bits.deBruijn64tab"], apart := false, laid := [("math/bits.deBruijn32tab", laid_math_bits_deBruijn32tab), ("math/bits.deBruijn64tab", laid_math_bits_deBruijn64tab), ("internal/strconv.uint64pow10", laid_internal_strconv_uint64pow10), ("strata/wire.table", laid_strata_wire_table)] }
def ManifestPlaysSaid : Prop := manifestPlaysRow.holds Tryz.pinned (OpenSpec.ofChange manifestPlaysSpec)

/-- ITS FALSE NEIGHBOUR: 'it returns false'. Refute it at one input. -/
def manifestPlaysWrong : ChangeSpec := { name := "manifestPlays", fn := fun _ => fun
  | [d1, d2, d3] => { results := [.lit (.bool false)], args := [d1, d2, d3] }
  | _ => none }
def ManifestPlaysWrongFalsely : Prop := manifestPlaysRow.holds Tryz.pinned (OpenSpec.ofChange manifestPlaysWrong)

/- THE SECOND FORM. 'bulk': how many values and letters a reading holds, each counted each time it is reached (what is shared counts as often as it is met; a slice's spare places count too). A statement '..UptoSaid' is the law's where the arguments, and the package variables that the reading takes, are together of bulk at most 1048576: NARROWER than '..Said'. Prove '..Said' where nothing that the law and all that it calls make is longer than what came in: it says more and counts as full. Else prove '..UptoSaid'. A law counts once. -/
mutual
def uptoBulk {H : Type} : DataW H → Nat
  | .lit (.string bytes) => bytes.length + 1
  | .lit _ => 1
  | .nil => 1
  | .ptr d => uptoBulk d + 1
  | .slice elems spare => uptoBulkAll elems + uptoBulkAll spare + 1
  | .agg parts => uptoBulkAll parts + 1
  | .iface _ d => uptoBulk d + 1
  | .map entries => uptoBulkEntries entries + 1
  | .held _ => 1
def uptoBulkAll {H : Type} : List (DataW H) → Nat
  | [] => 0
  | d :: r => uptoBulk d + uptoBulkAll r
def uptoBulkEntries {H : Type} : List (Lit × DataW H) → Nat
  | [] => 0
  | x :: r => uptoBulkEntry x + uptoBulkEntries r
def uptoBulkEntry {H : Type} : Lit × DataW H → Nat
  | (.string bytes, d) => bytes.length + uptoBulk d + 1
  | (_, d) => uptoBulk d + 1
 end
def uptoSmall : (H : Type) → List (DataW H) → Bool := fun _ ds => decide (uptoBulkAll ds ≤ 1048576)
def OpenSpec.upto (s : _root_.Go.ChangeSpec) : _root_.Go.OpenSpec := { _root_.Go.OpenSpec.ofChange s with cond := some uptoSmall }

/-- 'stratalaw10.VersionOwn', WHERE WHAT IT READS IS OF BULK AT MOST 1048576: true; the input reads as it did. -/
def versionOwnUptoRow : OpenClaim := { program := "ytgaidmohdhaonaagreatdoor", sum := "8ab3cc17ef175a26318abc408cdd060453cd5f7ba65907b5a7a77b83ffb9f2ae", func := "strata/stratalaw10.VersionOwn", spec := "versionOwn", inPlace := ["internal/bytealg.IndexByteString", "internal/bytealg.Compare"], unfollowed := true, recurses := true, named := ["strata/wire.table"], apart := false, laid := [("strata/wire.table", laid_strata_wire_table)], narrowed := true }
def VersionOwnUptoSaid : Prop := versionOwnUptoRow.holds Tryz.pinned (OpenSpec.upto versionOwnSpec)

/-- 'stratalaw10.VersionAgain', WHERE WHAT IT READS IS OF BULK AT MOST 1048576: true; the input reads as it did. -/
def versionAgainUptoRow : OpenClaim := { program := "ytgaidmohdhaonaagreatdoor", sum := "8ab3cc17ef175a26318abc408cdd060453cd5f7ba65907b5a7a77b83ffb9f2ae", func := "strata/stratalaw10.VersionAgain", spec := "versionAgain", inPlace := ["internal/bytealg.Compare", "internal/bytealg.IndexByteString"], unfollowed := true, recurses := true, named := ["strata/wire.table"], apart := false, laid := [("strata/wire.table", laid_strata_wire_table)], narrowed := true }
def VersionAgainUptoSaid : Prop := versionAgainUptoRow.holds Tryz.pinned (OpenSpec.upto versionAgainSpec)

/-- 'stratalaw10.ManifestFull', WHERE WHAT IT READS IS OF BULK AT MOST 1048576: true; the input reads as it did. -/
def manifestFullUptoRow : OpenClaim := { program := "ytgaidmohdhaonaagreatdoor", sum := "8ab3cc17ef175a26318abc408cdd060453cd5f7ba65907b5a7a77b83ffb9f2ae", func := "strata/stratalaw10.ManifestFull", spec := "manifestFull", inPlace := ["internal/bytealg.IndexByteString", "internal/bytealg.Compare"], unfollowed := true, recurses := true, named := ["strata/wire.table"], apart := false, laid := [("strata/wire.table", laid_strata_wire_table)], narrowed := true }
def ManifestFullUptoSaid : Prop := manifestFullUptoRow.holds Tryz.pinned (OpenSpec.upto manifestFullSpec)

/-- 'stratalaw10.ManifestStroke', WHERE WHAT IT READS IS OF BULK AT MOST 1048576: true; the input reads as it did. -/
def manifestStrokeUptoRow : OpenClaim := { program := "ytgaidmohdhaonaagreatdoor", sum := "8ab3cc17ef175a26318abc408cdd060453cd5f7ba65907b5a7a77b83ffb9f2ae", func := "strata/stratalaw10.ManifestStroke", spec := "manifestStroke", inPlace := ["internal/bytealg.IndexByteString", "internal/bytealg.Compare"], unfollowed := true, recurses := true, named := ["strata/wire.table"], apart := false, laid := [("strata/wire.table", laid_strata_wire_table)], narrowed := true }
def ManifestStrokeUptoSaid : Prop := manifestStrokeUptoRow.holds Tryz.pinned (OpenSpec.upto manifestStrokeSpec)

/-- 'stratalaw10.ManifestSweeps', WHERE WHAT IT READS IS OF BULK AT MOST 1048576: true; the input reads as it did. -/
def manifestSweepsUptoRow : OpenClaim := { program := "ytgaidmohdhaonaagreatdoor", sum := "8ab3cc17ef175a26318abc408cdd060453cd5f7ba65907b5a7a77b83ffb9f2ae", func := "strata/stratalaw10.ManifestSweeps", spec := "manifestSweeps", inPlace := ["internal/bytealg.IndexByteString", "internal/bytealg.Compare"], unfollowed := true, recurses := true, named := ["strata/wire.table", "internal/strconv.uint64pow10", "math/bits.deBruijn32tab", "math/bits.deBruijn64tab"], apart := false, laid := [("math/bits.deBruijn32tab", laid_math_bits_deBruijn32tab), ("math/bits.deBruijn64tab", laid_math_bits_deBruijn64tab), ("internal/strconv.uint64pow10", laid_internal_strconv_uint64pow10), ("strata/wire.table", laid_strata_wire_table)], narrowed := true }
def ManifestSweepsUptoSaid : Prop := manifestSweepsUptoRow.holds Tryz.pinned (OpenSpec.upto manifestSweepsSpec)

/-- 'stratalaw10.VersionLent', WHERE WHAT IT READS IS OF BULK AT MOST 1048576: true; the input reads as it did. -/
def versionLentUptoRow : OpenClaim := { program := "ytgaidmohdhaonaagreatdoor", sum := "8ab3cc17ef175a26318abc408cdd060453cd5f7ba65907b5a7a77b83ffb9f2ae", func := "strata/stratalaw10.VersionLent", spec := "versionLent", inPlace := ["internal/bytealg.IndexByteString", "internal/bytealg.Compare"], unfollowed := true, recurses := true, named := ["strata/wire.table", "internal/strconv.uint64pow10", "math/bits.deBruijn32tab", "math/bits.deBruijn64tab"], apart := false, laid := [("math/bits.deBruijn32tab", laid_math_bits_deBruijn32tab), ("math/bits.deBruijn64tab", laid_math_bits_deBruijn64tab), ("internal/strconv.uint64pow10", laid_internal_strconv_uint64pow10), ("strata/wire.table", laid_strata_wire_table)], narrowed := true }
def VersionLentUptoSaid : Prop := versionLentUptoRow.holds Tryz.pinned (OpenSpec.upto versionLentSpec)

/-- 'stratalaw10.ManifestPlays', WHERE WHAT IT READS IS OF BULK AT MOST 1048576: true; the input reads as it did. -/
def manifestPlaysUptoRow : OpenClaim := { program := "ytgaidmohdhaonaagreatdoor", sum := "8ab3cc17ef175a26318abc408cdd060453cd5f7ba65907b5a7a77b83ffb9f2ae", func := "strata/stratalaw10.ManifestPlays", spec := "manifestPlays", inPlace := ["internal/bytealg.IndexByteString", "internal/bytealg.Compare"], unfollowed := true, recurses := true, named := ["strata/wire.table", "internal/strconv.uint64pow10", "math/bits.deBruijn32tab", "math/bits.deBruijn64tab"], apart := false, laid := [("math/bits.deBruijn32tab", laid_math_bits_deBruijn32tab), ("math/bits.deBruijn64tab", laid_math_bits_deBruijn64tab), ("internal/strconv.uint64pow10", laid_internal_strconv_uint64pow10), ("strata/wire.table", laid_strata_wire_table)], narrowed := true }
def ManifestPlaysUptoSaid : Prop := manifestPlaysUptoRow.holds Tryz.pinned (OpenSpec.upto manifestPlaysSpec)

end Rows
end Go.Proofs.YtgaidmohdhaonaaGreatDoor
