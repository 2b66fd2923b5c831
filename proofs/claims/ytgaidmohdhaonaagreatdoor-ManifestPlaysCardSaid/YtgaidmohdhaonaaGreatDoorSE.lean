/-
  Plain law: a disk that is not armed: Create, Append, Delete, Swap, Load, one behind the other.
  stratalaw10.whole.
-/
import Derived.Test.YtgaidmohdhaonaaGreatDoorSA
import Derived.Test.YtgaidmohdhaonaaGreatDoorYT
set_option linter.unusedVariables false
set_option linter.unusedSimpArgs false
set_option linter.unnecessarySimpa false
set_option linter.unusedSectionVars false
set_option maxRecDepth 100000
namespace Go.Proofs.YtgaidmohdhaonaaGreatDoor
open Go Go.RowKit
section
variable {C:Nat} {a:DiskA} {F:List FileA} {n:ByteArray}
end
section
variable {C:Nat} {a:DiskA} {F:List FileA} {pre:ByteArray} {m:Option VerA} {x:VerA}
end
abbrev yB:ByteArray:={ data:=#[121] }
abbrev yN:ByteArray:=yB++nameB
abbrev Y1:FileA:=⟨yN,encodeB firstA,(encodeB firstA).length⟩
def Y2 (x:VerA):FileA:=⟨yN,encodeB x,(encodeB x).length⟩
theorem whole_any (n lo hi : Int) (h1 : lo ≤ hi) (h0 : 0 ≤ lo) (h2 : hi ≤ 1099511627776) (w : World) :
    Calls Tryz.prog 26 #[.int .i64 n,.int .i64 lo,.int .i64 hi] w fun e w'=>e=.returned (.int .i64 (lo+n%(hi-lo+1)))∧w'=w:=by
  obtain ⟨N,hN⟩:∃N,N=hi-lo+1:=⟨_,rfl⟩
  have hN1:1≤N:=by omega
  have hb1 : -N<n.tmod N:=Int.lt_tmod_of_pos n (by omega)
  have hb2:n.tmod N<N:=Int.tmod_lt_of_pos n (by omega)
  have hq:=Int.mul_tdiv_add_tmod n N
  obtain ⟨r,hr⟩:∃r,r=n.tmod N:=⟨_,rfl⟩
  rw [←hr] at hb1 hb2 hq
  have hem:n%N=if r<0 then r+N else r:=by
    have e1:n=r+n.tdiv N*N:=by rw [Int.mul_comm];omega
    have e2 : n % N = r % N := by conv => lhs; rw [e1]
                                  exact Int.add_mul_emod_self_right ..
    rw [e2]
    split
    · rw [←Int.add_emod_right,Int.emod_eq_of_lt (by omega) (by omega)]
    · exact Int.emod_eq_of_lt (by omega) (by omega)
  rw [←hN,hem]
  have hr':n.tmod N=r:=hr.symm
  have hz:¬N=0:=by omega
  have hNi:hi-lo+1=N:=hN.symm
  clear hN hr hq hem
  by_cases hneg:r<0
  · rw [if_pos hneg]
    have HF:Hid (lo+(r+N)=lo+(r+hi-lo+1)):=hid (by omega)
    go_enter Tryz.func26,Tryz.ntmps26
    go_wp2
    go_ret
    exact ⟨by rw [HF.out];rfl,rfl⟩
  · rw [if_neg hneg]
    go_enter Tryz.func26,Tryz.ntmps26
    go_wp2
    go_ret
    exact ⟨rfl,rfl⟩
end Go.Proofs.YtgaidmohdhaonaaGreatDoor
