/-
  NARROWER THAN 'FOR EVERY INPUT', by the rows' own cells (each row's printed sentence says how): VersionBack: laid · VersionMany: laid.
  DERIVED. THE GIVEN ROWS OF THIS SEAT. 2 by the template 'for every input the law returns true; each argument reads behind the call as it read before'; 0 by the template 'total and deterministic' (their statements: YthklehpkfndohaaDoorTotals.lean).
  GIVEN WITH THE SEED: the statements are not yours to turn. If you find one false, say at which input.
  Laid BY PROGRAM, IN A SANDBOX (cutbox-rows.mjs): the forced cells as the released guide's own fill.sh prints them over the translation 0324cf1f550eff44… (all of the seat's roots in one cut). By AI agents, Wed Nov 11 2026. No macro, syntax, notation, axiom, sorry.
-/
import Derived.Test.YthklehpkfndohaaDoorChecked
import GoSem.Claim
import GoSem.ClaimJoined
import GoSem.ClaimMapViews
import Derived.JoinedTies
import Derived.KernelRfl
namespace Go.Proofs.YthklehpkfndohaaDoor
/- THE CELL 'sum', in the pinned program and in every row, IS THE sha256 OF THE DUMP (.gsa) THAT YthklehpkfndohaaDoorProg.lean LOADS. Nothing in Lean hashes anything: it is a label: what it is worth is what the hold of that sum in a sandbox is worth. -/
noncomputable def Tryd.pinned : Pinned := { name := "ythklehpkfndohaadoor", sum := "0324cf1f550eff4451417a1742434843f53246b9105a9972c2d886e9c0b79d25", checked := Tryd.checked }
namespace Rows
def none {H : Type} : Left H := { results := [], args := [] }

/- WHAT THE LISTED PACKAGE-LEVEL VARIABLES READ AS WHEN THE CALL BEGINS. Each datum BY PROGRAM (the guide's laid-datum.mjs) off the statement by which the dump's own 'gosem.cut.vars' lays the variable. In a bare row this is a premise. The card (YthklehpkfndohaaDoorCards.lean) ties it to the program's text. -/
def laid_strata_wire_table {H : Type} : DataW H := .agg [.lit (.int .u32 0), .lit (.int .u32 274646895), .lit (.int .u32 549293790), .lit (.int .u32 820201905), .lit (.int .u32 1098587580), .lit (.int .u32 1361435347), .lit (.int .u32 1640403810), .lit (.int .u32 1905808397), .lit (.int .u32 2197175160), .lit (.int .u32 2460548119), .lit (.int .u32 2722870694), .lit (.int .u32 2987750089), .lit (.int .u32 3280807620), .lit (.int .u32 3553878443), .lit (.int .u32 3811616794), .lit (.int .u32 4084100981)]

/-- 'stratalaw10.VersionBack': WHATEVER THE INPUT: true; the input reads as it did. -/
def versionBackSpec : ChangeSpec := { name := "versionBack", fn := fun _ => fun
  | [d1, d2] => { results := [.lit (.bool true)], args := [d1, d2] }
  | _ => none }
def versionBackRow : OpenClaim := { program := "ythklehpkfndohaadoor", sum := "0324cf1f550eff4451417a1742434843f53246b9105a9972c2d886e9c0b79d25", func := "strata/stratalaw10.VersionBack", spec := "versionBack", inPlace := ["internal/bytealg.Compare", "internal/bytealg.IndexByteString"], unfollowed := true, recurses := true, named := ["strata/wire.table"], apart := false, laid := [("strata/wire.table", laid_strata_wire_table)] }
def VersionBackSaid : Prop := versionBackRow.holds Tryd.pinned (OpenSpec.ofChange versionBackSpec)

/-- ITS FALSE NEIGHBOUR: 'it returns false'. Refute it at one input. -/
def versionBackWrong : ChangeSpec := { name := "versionBack", fn := fun _ => fun
  | [d1, d2] => { results := [.lit (.bool false)], args := [d1, d2] }
  | _ => none }
def VersionBackWrongFalsely : Prop := versionBackRow.holds Tryd.pinned (OpenSpec.ofChange versionBackWrong)

/-- 'stratalaw10.VersionMany': WHATEVER THE INPUT: true; the input reads as it did. -/
def versionManySpec : ChangeSpec := { name := "versionMany", fn := fun _ => fun
  | [d1, d2] => { results := [.lit (.bool true)], args := [d1, d2] }
  | _ => none }
def versionManyRow : OpenClaim := { program := "ythklehpkfndohaadoor", sum := "0324cf1f550eff4451417a1742434843f53246b9105a9972c2d886e9c0b79d25", func := "strata/stratalaw10.VersionMany", spec := "versionMany", inPlace := ["internal/bytealg.Compare", "internal/bytealg.IndexByteString"], unfollowed := true, recurses := true, named := ["strata/wire.table"], apart := false, laid := [("strata/wire.table", laid_strata_wire_table)] }
def VersionManySaid : Prop := versionManyRow.holds Tryd.pinned (OpenSpec.ofChange versionManySpec)

/-- ITS FALSE NEIGHBOUR: 'it returns false'. Refute it at one input. -/
def versionManyWrong : ChangeSpec := { name := "versionMany", fn := fun _ => fun
  | [d1, d2] => { results := [.lit (.bool false)], args := [d1, d2] }
  | _ => none }
def VersionManyWrongFalsely : Prop := versionManyRow.holds Tryd.pinned (OpenSpec.ofChange versionManyWrong)

/- THE SECOND FORM. 'bulk': how many values and letters a reading holds, each counted each time it is reached (what is shared counts as often as it is met; a slice's spare places count too). A statement '..UptoSaid' is the law's where the arguments, and the package variables that the reading takes, are together of bulk at most 1048576: NARROWER than '..Said'. Prove '..Said' where nothing that the law and all that it calls make is longer than what came in: it says more and counts as full. Else prove '..UptoSaid'. A law counts once. -/
mutual
def uptoBulk {H : Type} : DataW H → Nat
  | .lit (.string bytes) => bytes.length + 1
  | .lit _ => 1
  | .nil => 1
  | .ptr d => uptoBulk d + 1
  | .slice elems spare => uptoBulkAll elems + uptoBulkAll spare + 1
  | .agg parts => uptoBulkAll parts + 1
  | .iface _ d => uptoBulk d + 1
  | .map entries => uptoBulkEntries entries + 1
  | .held _ => 1
def uptoBulkAll {H : Type} : List (DataW H) → Nat
  | [] => 0
  | d :: r => uptoBulk d + uptoBulkAll r
def uptoBulkEntries {H : Type} : List (Lit × DataW H) → Nat
  | [] => 0
  | x :: r => uptoBulkEntry x + uptoBulkEntries r
def uptoBulkEntry {H : Type} : Lit × DataW H → Nat
  | (.string bytes, d) => bytes.length + uptoBulk d + 1
  | (_, d) => uptoBulk d + 1
 end
def uptoSmall : (H : Type) → List (DataW H) → Bool := fun _ ds => decide (uptoBulkAll ds ≤ 1048576)
def OpenSpec.upto (s : _root_.Go.ChangeSpec) : _root_.Go.OpenSpec := { _root_.Go.OpenSpec.ofChange s with cond := some uptoSmall }

/-- 'stratalaw10.VersionBack', WHERE WHAT IT READS IS OF BULK AT MOST 1048576: true; the input reads as it did. -/
def versionBackUptoRow : OpenClaim := { program := "ythklehpkfndohaadoor", sum := "0324cf1f550eff4451417a1742434843f53246b9105a9972c2d886e9c0b79d25", func := "strata/stratalaw10.VersionBack", spec := "versionBack", inPlace := ["internal/bytealg.Compare", "internal/bytealg.IndexByteString"], unfollowed := true, recurses := true, named := ["strata/wire.table"], apart := false, laid := [("strata/wire.table", laid_strata_wire_table)], narrowed := true }
def VersionBackUptoSaid : Prop := versionBackUptoRow.holds Tryd.pinned (OpenSpec.upto versionBackSpec)

/-- 'stratalaw10.VersionMany', WHERE WHAT IT READS IS OF BULK AT MOST 1048576: true; the input reads as it did. -/
def versionManyUptoRow : OpenClaim := { program := "ythklehpkfndohaadoor", sum := "0324cf1f550eff4451417a1742434843f53246b9105a9972c2d886e9c0b79d25", func := "strata/stratalaw10.VersionMany", spec := "versionMany", inPlace := ["internal/bytealg.Compare", "internal/bytealg.IndexByteString"], unfollowed := true, recurses := true, named := ["strata/wire.table"], apart := false, laid := [("strata/wire.table", laid_strata_wire_table)], narrowed := true }
def VersionManyUptoSaid : Prop := versionManyUptoRow.holds Tryd.pinned (OpenSpec.upto versionManySpec)

end Rows
end Go.Proofs.YthklehpkfndohaaDoor
