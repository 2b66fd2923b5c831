/-
  What comes in: a list of versions, a list of ints, opened into plain data.
-/
import Derived.Test.YtgaidmohdhaonaaGreatDoorZA
import Derived.Test.YtgaidmohdhaonaaGreatDoorSB
set_option linter.unusedVariables false
set_option linter.unusedSimpArgs false
set_option linter.unnecessarySimpa false
set_option linter.unusedSectionVars false
namespace Go.Proofs.YtgaidmohdhaonaaGreatDoor
open Go Go.ChangeShapes Go.WideShapes Go.ChangeAt Go.RowKit
section
variable {H:Type} {enc:TypeId×Value→H} {W:World} {base:Nat}
theorem open_intsV {fuel:Nat} {v:Value} {x:DataW H×List MemPlace} (h:DataW.trod enc Tryz.prog W 0 (fun _=>true) true fuel 77 [v]=some x) :
  ∃zs,IntsAt W v zs∧(∀n∈zs,I64 n)∧(∀a l c,v=.slice (some a) l c→0<l→a.block<W.heap.size):=by
 rcases open_ints Tryz.underlying77 Tryz.underlying3 (by kernel_rfl) h with ⟨hcs,_⟩|⟨a,len,cap,zs,hcs,_,hl,hm,hz,_,hcell,hwz⟩
 ·obtain rfl:v=.slice none 0 0:=by simpa using hcs
  exact ⟨[],⟨none,0,rfl,by simp,fun k hk=>by simp at hk⟩,(fun n hn=>by cases hn),fun a l c h=>(by cases h)⟩
 ·obtain rfl:v=.slice (some a) len cap:=by simpa using hcs
  simp only [if_true] at hz
  have hlen:(zs.take len).length=len:=by simp;omega
  have hm':cap≤9223372036854775807:=by simpa [maxLen] using Nat.le_trans hm (by decide:maxLen≤maxLen)
  refine ⟨zs.take len,⟨some a,cap,by rw [hlen],by omega,fun k hk=>⟨a,rfl,World.cell?_spot (by simpa [Addr.add] using hcell 0 (by omega)),fun j hj=>?_⟩⟩,fun n hn=>?_,fun a' l c h h0=>?_⟩
  ·have hs:a.spot=none:=World.cell?_spot (by simpa [Addr.add] using hcell 0 (by omega))
   obtain ⟨b,o,sp⟩:=a
   simp only at hs
   subst hs
   have hj':j<zs.length:=by omega
   have:=hcell j hj'
   rw [Addr.add_lit] at this
   rw [this]
   congr 2
   simp [List.getD,List.getElem?_eq_getElem hj']
  ·exact bounds_i64 (hwz n (List.mem_of_mem_take hn))
  ·injection h with h1 h2 h3
   injection h1 with h1
   subst h1 h2 h3
   have:=block_lt (hcell 0 (by omega))
   have hab:(a.add 0).block=a.block:=by unfold Addr.add;split<;>rfl
   rw [hab] at this
   exact this
end
end Go.Proofs.YtgaidmohdhaonaaGreatDoor
