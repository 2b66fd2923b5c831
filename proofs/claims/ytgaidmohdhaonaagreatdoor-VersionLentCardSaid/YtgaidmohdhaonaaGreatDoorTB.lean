/-
  Package strataref10, walked: there, Load.
  Package strataref10, walked: Swap.
-/
import Derived.Test.YtgaidmohdhaonaaGreatDoorSX
import Derived.Test.YtgaidmohdhaonaaGreatDoorYK
import Derived.Test.YtgaidmohdhaonaaGreatDoorYL
import Derived.Test.YtgaidmohdhaonaaGreatDoorYG
import Derived.Test.YtgaidmohdhaonaaGreatDoorYP
set_option linter.unusedVariables false
set_option linter.unusedSimpArgs false
set_option linter.unnecessarySimpa false
set_option linter.unusedSectionVars false
set_option maxRecDepth 100000
set_option maxHeartbeats 6400000
namespace Go.Proofs.YtgaidmohdhaonaaGreatDoor
open Go Go.RowKit
theorem RGo.out {w w':World} {r r2:RS} {a:DiskA} (h:RGo w w' r r2 a) {k:Nat} (hk:k<w.heap.size) (hn:¬r.own k):¬r2.own k:=fun e=>(h.st.foot k e).elim hn (fun e=>by omega)
end Go.Proofs.YtgaidmohdhaonaaGreatDoor
