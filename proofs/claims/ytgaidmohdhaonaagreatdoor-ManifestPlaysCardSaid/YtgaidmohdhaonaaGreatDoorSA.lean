/-
  Plain law: what a Swap makes of a disk that is up: the stroke's acts one behind the other, with power that fails at any of them.
  Plain law: a disk on which versions are swapped in under one prefix, with power that fails.
-/
import Derived.Test.YtgaidmohdhaonaaGreatDoorYJ
import Derived.Test.YtgaidmohdhaonaaGreatDoorZA
import Derived.Test.YtgaidmohdhaonaaGreatDoorGE
set_option linter.unusedVariables false
set_option linter.unusedSimpArgs false
set_option linter.unnecessarySimpa false
set_option linter.unusedSectionVars false
namespace Go.Proofs.YtgaidmohdhaonaaGreatDoor
open Go Go.RowKit
section
variable {pre:ByteArray} {b:List UInt8}
end
end Go.Proofs.YtgaidmohdhaonaaGreatDoor
