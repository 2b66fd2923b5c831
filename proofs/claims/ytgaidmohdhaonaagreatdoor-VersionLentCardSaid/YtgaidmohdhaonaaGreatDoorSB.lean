/-
  stratalaw10.follow.
  A region that draws its order: two operations may come up.
  A disk that was made since the call began, with boxes beside it; lists of versions that came in.
-/
import Derived.Test.YtgaidmohdhaonaaGreatDoorYT
import Derived.Test.YtgaidmohdhaonaaGreatDoorZA
import Derived.Test.YtgaidmohdhaonaaGreatDoorYP
import Derived.Test.YtgaidmohdhaonaaGreatDoorYI
import Derived.Test.YtgaidmohdhaonaaGreatDoorYJ
import Derived.Test.YtgaidmohdhaonaaGreatDoorYK
import Derived.Test.YtgaidmohdhaonaaGreatDoorGE
set_option linter.unusedVariables false
set_option linter.unusedSimpArgs false
set_option linter.unnecessarySimpa false
set_option linter.unusedSectionVars false
namespace Go.Proofs.YtgaidmohdhaonaaGreatDoor
open Go Go.RowKit
end Go.Proofs.YtgaidmohdhaonaaGreatDoor
namespace Go.Proofs.YtgaidmohdhaonaaGreatDoor
open Go
section
variable {P:Program} {Q:Exit→Act→World→Prop} {md:Region.Mode} {S:World→Prop} {z:Nat}
theorem wpAnyL_two {l:List Oper} (i j:Nat) {oi oj:Oper} {fuel:Nat} {listed:Array Bool} {a:Act} {w:World} (hoi:l[i]? = some oi) (hoj:l[j]? = some oj) (hr:Region.ready md l.toArray listed=[i,j])
  (h1:∀K':Act→World→Prop,Shut (∀a w,(i≠z→S w)→wpAnyL P md l.toArray Q S z fuel (listed.setIfInBounds i true) a w→K' a w)→
   if Region.wanted oi (yielded l.toArray a.tmps)=true then Oper.wp P oi a w K' Q else K' (a.put oi.dst undef) w)
  (h2:∀K':Act→World→Prop,Shut (∀a w,(j≠z→S w)→wpAnyL P md l.toArray Q S z fuel (listed.setIfInBounds j true) a w→K' a w)→
   if Region.wanted oj (yielded l.toArray a.tmps)=true then Oper.wp P oj a w K' Q else K' (a.put oj.dst undef) w) :
  wpAnyL P md l.toArray Q S z (fuel+1) listed a w:=by
 refine ⟨fun h0=>(by rw [hr] at h0;cases h0),fun k hk=>?_⟩
 rw [hr] at hk
 simp only [List.mem_cons,List.not_mem_nil,or_false] at hk
 rcases hk with rfl|rfl
 ·exact wpOp_step (by simpa using hoi) (fun K' hK=>h1 K' (fun a w h1 h2=>hK a w ⟨h1,h2⟩))
 ·exact wpOp_step (by simpa using hoj) (fun K' hK=>h2 K' (fun a w h1 h2=>hK a w ⟨h1,h2⟩))
end
end Go.Proofs.YtgaidmohdhaonaaGreatDoor
namespace Go.Proofs.YtgaidmohdhaonaaGreatDoor
open Go Go.RowKit
theorem zeroAtD (w:World):VerAt w (.agg (verC 0 0 0 0 0 (.slice none 0 0) (.slice none 0 0))) zeroVer:=
 ⟨none,0,none,0,rfl,⟨none,0,rfl,by decide,by decide,fun _=>⟨rfl,rfl⟩,fun j hj=>absurd hj (by simp [zeroVer])⟩,⟨none,0,rfl,by decide,by decide,fun k hk=>absurd hk (by simp [zeroVer])⟩⟩
end Go.Proofs.YtgaidmohdhaonaaGreatDoor
