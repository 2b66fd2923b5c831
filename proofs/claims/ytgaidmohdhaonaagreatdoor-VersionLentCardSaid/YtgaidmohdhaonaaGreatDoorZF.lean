/-
  A region that draws its order: two may come up next.
  manifest.RunName, strataref10.RunName, decimal.
-/
import Derived.Test.YtgaidmohdhaonaaGreatDoorYI
import Derived.Test.YtgaidmohdhaonaaGreatDoorItoa
import Derived.Test.YtgaidmohdhaonaaGreatDoorYT
import Derived.Laws.Concat
import Derived.Lib.ItoaLen
import Derived.Lib.ItoaMem
set_option linter.unusedVariables false
set_option linter.unusedSimpArgs false
set_option linter.unnecessarySimpa false
set_option linter.unusedSectionVars false
set_option maxRecDepth 100000
set_option maxHeartbeats 3200000
namespace Go.Proofs.YtgaidmohdhaonaaGreatDoor
open Go
section
variable {P:Program} {ops:Array Oper} {Q:Exit→Act→World→Prop} {md:Region.Mode} {S:World→Prop} {z:Nat}
theorem wpAnyL_two {l:List Oper} (i j:Nat) {oi oj:Oper} {fuel:Nat} {listed:Array Bool} {a:Act} {w:World} (hi:l[i]? = some oi) (hj:l[j]? = some oj) (hr:Region.ready md l.toArray listed=[i,j])
  (h1:∀K':Act→World→Prop,Shut (∀a w,(i≠z→S w)→wpAnyL P md l.toArray Q S z fuel (listed.setIfInBounds i true) a w→K' a w)→
   if Region.wanted oi (yielded l.toArray a.tmps)=true then Oper.wp P oi a w K' Q else K' (a.put oi.dst undef) w)
  (h2:∀K':Act→World→Prop,Shut (∀a w,(j≠z→S w)→wpAnyL P md l.toArray Q S z fuel (listed.setIfInBounds j true) a w→K' a w)→
   if Region.wanted oj (yielded l.toArray a.tmps)=true then Oper.wp P oj a w K' Q else K' (a.put oj.dst undef) w) :
  wpAnyL P md l.toArray Q S z (fuel+1) listed a w:=by
 refine ⟨fun h0=>(by rw [hr] at h0;cases h0),fun k hk=>?_⟩
 rw [hr] at hk
 rcases List.mem_cons.1 hk with rfl|hk
 ·exact wpOp_step (by simpa using hi) (fun K' hK=>h1 K' (fun a w g1 g2=>hK a w ⟨g1,g2⟩))
 ·rw [List.mem_singleton] at hk
  subst hk
  exact wpOp_step (by simpa using hj) (fun K' hK=>h2 K' (fun a w g1 g2=>hK a w ⟨g1,g2⟩))
end
end Go.Proofs.YtgaidmohdhaonaaGreatDoor
namespace Go.Proofs.YtgaidmohdhaonaaGreatDoor
open Go Go.RowKit
abbrev runB:ByteArray:={ data:=#[82,85,78,45] }
def decB (n:Nat):ByteArray:=⟨(Lib.decDigits n).toArray⟩
def runName (pre:ByteArray) (n:Int):ByteArray:=if n<0 then pre++runB else pre++runB++decB n.toNat
theorem decB_size {n:Nat} (h:n≤9223372036854775807):(decB n).size≤21:=by
 have h1:=Lib.itoa_length_le (n:Int) (by omega) (by omega)
 rw [Lib.itoa_nonneg] at h1
 simpa [decB,ByteArray.size] using h1
theorem decB_big {n:Nat} (h:¬n<10):decB n=decB (n / 10)++⟨#[UInt8.ofNat (48+n%10)]⟩:=by
 unfold decB
 rw [Lib.decDigits,dif_neg h]
 apply ByteArray.ext
 simp [ByteArray.data_append]
theorem digit_string {W:World} {g d:Nat} {z:Int} (hz:z=48+(d:Int)) (hd:d<10) (h:W.heap[g]? = some (.cells #[.int .u8 z] 5 (0,0))) :
  (convert 22 9 (.slice (some ⟨g,0,none⟩) 1 1)).run Tryz.prog W=.ok (.string ⟨#[UInt8.ofNat (48+d)]⟩) W:=by
 refine run_string_of (bs:=[UInt8.ofNat (48+d)]) ⟨some ⟨g,0,none⟩,1,rfl,(fun h=>by cases h),fun a ha j u hu=>?_⟩
 injection ha with ha
 subst ha
 cases j with
 | zero=>
  simp only [List.map_cons,List.map_nil,List.getElem?_cons_zero,Option.some.injEq] at hu
  rw [Addr.add_lit,cell_of_row W g 0 _ _ _ h,←hu]
  unfold byteV
  simp [UInt8.toNat_ofNat']
  omega
 | succ j=>simp at hu
theorem decimal_any:∀(n:Nat),n≤9223372036854775807→∀w:World,
  Calls Tryz.prog 177 #[.int .i64 n] w fun e w'=>e=.returned (.string (decB n))∧Upd (fun _=>False) w w':=by
 intro n
 induction n using Nat.strongRecOn with
 | _ n ih=>
  intro hn w
  by_cases h10:n<10
  ·have hlt:(n:Int)<10:=by omega
   have hcv:=digit_string (z:=48+(n:Int)) rfl h10 (heap_alloc_new w (.cells #[.int .u8 (48+(n:Int))] 5))
   rw [show (⟨#[UInt8.ofNat (48+n)]⟩:ByteArray)=decB n from by unfold decB;rw [Lib.decDigits_one h10]] at hcv
   have HU:=hid ((Upd.refl (fun _=>False) w).alloc (.cells #[.int .u8 (48+(n:Int))] 5))
   clear ih
   go_enter Tryz.func177,Tryz.ntmps177
   go_wp2
   go_ret
   exact ⟨rfl,HU.out⟩
  ·have hge:¬(n:Int)<10:=by omega
   have Kc:=hid (fun W=>by have h:=ih (n / 10) (by omega) (by omega) W;rwa [show (((n / 10:Nat)):Int)=(n:Int) / 10 from by omega] at h)
   obtain ⟨D,hD⟩:∃D:ByteArray,D=⟨#[UInt8.ofNat (48+n%10)]⟩:=⟨_,rfl⟩
   have Ka:=hid (fun (W:World) (g:Nat) (h:W.heap[g]? = some (.cells #[.int .u8 (48+(n:Int)%10)] 5 (0,0)))=>show (convert 22 9 (.slice (some ⟨g,0,none⟩) 1 1)).run Tryz.prog W=.ok (.string D) W from by rw [hD];exact digit_string (d:=n%10) (by omega) (by omega) h)
   have hDs:D.size=1:=by rw [hD];rfl
   have Kb:=hid (show decB n=decB (n / 10)++D from by rw [hD];exact decB_big h10)
   have hsz:¬(9223372036854775807<(decB (n / 10)).size+D.size):=by have:=decB_size (n:=n / 10) (by omega);omega
   clear ih h10 hDs hD
   go_enter Tryz.func177,Tryz.ntmps177
   go_upto_region 3 with fail
   refine wp_region_l (fun _=>True) 10 11 rfl (by kernel_rfl) ?_
   have hHeld:True:=trivial
   refine' wpAnyL_take 0 [10] (v:=_) rfl (by kernel_rfl) (by kernel_rfl) (by kernel_rfl) (by kernel_rfl) (by simp) (fun _ _ _ h=>h) (Or.inl ⟨by rfl,?hy0⟩) (by assumption) ?rest0
   case hy0=>(intro wS hSw;(try dsimp only at hSw);go_simp;(try with_reducible rfl))
   (try simp only [Act.put,List.setIfInBounds_toArray,List.set_cons_zero,List.set_cons_succ])
   refine' wpAnyL_take 1 [10] (v:=_) rfl (by kernel_rfl) (by kernel_rfl) (by kernel_rfl) (by kernel_rfl) (by simp) (fun _ _ _ h=>h) (Or.inl ⟨by rfl,?hy1⟩) (by assumption) ?rest1
   case hy1=>(intro wS hSw;(try dsimp only at hSw);go_simp;(try with_reducible rfl))
   (try simp only [Act.put,List.setIfInBounds_toArray,List.set_cons_zero,List.set_cons_succ])
   refine' wpAnyL_take 3 [10] (v:=_) rfl (by kernel_rfl) (by kernel_rfl) (by kernel_rfl) (by kernel_rfl) (by simp) (fun _ _ _ h=>h) (Or.inl ⟨by rfl,?hy3⟩) (by assumption) ?rest3
   case hy3=>(intro wS hSw;(try dsimp only at hSw);go_simp;(try with_reducible rfl))
   (try simp only [Act.put,List.setIfInBounds_toArray,List.set_cons_zero,List.set_cons_succ])
   refine' wpAnyL_take 4 [10] (v:=_) rfl (by kernel_rfl) (by kernel_rfl) (by kernel_rfl) (by kernel_rfl) (by simp) (fun _ _ _ h=>h) (Or.inl ⟨by rfl,?hy4⟩) (by assumption) ?rest4
   case hy4=>(intro wS hSw;(try dsimp only at hSw);go_simp;(try with_reducible rfl))
   (try simp only [Act.put,List.setIfInBounds_toArray,List.set_cons_zero,List.set_cons_succ])
   refine' wpAnyL_take 5 [10] (v:=_) rfl (by kernel_rfl) (by kernel_rfl) (by kernel_rfl) (by kernel_rfl) (by simp) (fun _ _ _ h=>h) (Or.inl ⟨by rfl,?hy5⟩) (by assumption) ?rest5
   case hy5=>(intro wS hSw;(try dsimp only at hSw);go_simp;(try with_reducible rfl))
   (try simp only [Act.put,List.setIfInBounds_toArray,List.set_cons_zero,List.set_cons_succ])
   refine' wpAnyL_take 6 [10] (v:=_) rfl (by kernel_rfl) (by kernel_rfl) (by kernel_rfl) (by kernel_rfl) (by simp) (fun _ _ _ h=>h) (Or.inl ⟨by rfl,?hy6⟩) (by assumption) ?rest6
   case hy6=>(intro wS hSw;(try dsimp only at hSw);go_simp;(try with_reducible rfl))
   (try simp only [Act.put,List.setIfInBounds_toArray,List.set_cons_zero,List.set_cons_succ])
   have q1:IntKind.i64.wrap ((n:Int) / 10)=(n:Int) / 10:=by rw [IntKind.wrap_i64];omega
   have q2:((n:Int)).tmod 10=(n:Int)%10:=Int.tmod_eq_emod_of_nonneg (by omega)
   have q3:IntKind.i64.wrap (48+(n:Int)%10)=48+(n:Int)%10:=by rw [IntKind.wrap_i64];omega
   have q4:IntKind.u8.wrap (48+(n:Int)%10)=48+(n:Int)%10:=by rw [IntKind.wrap_u8];omega
   simp only [q1,q2,q3,q4]
   clear q1 q2 q3 q4
   refine wpAnyL_two 2 7 rfl rfl (by kernel_rfl) (fun K hK=>?_) (fun K hK=>?_)
   ·skip
    go_simp
    go_at_call 177
    refine (Kc.out _).mono ?_
    rintro e w1 ⟨rfl,hu⟩
    have Ke:=hid ((Upd.refl (fun _=>False) w).drew.trans hu (fun _ _ e=>e))
    clear hu
    refine hK.out _ _ (fun _=>trivial) ?_
    clear hK K
    (try simp only [Act.put,List.setIfInBounds_toArray,List.set_cons_zero,List.set_cons_succ])
    refine wpAnyL_one 7 rfl (by kernel_rfl) (fun K hK=>?_)
    go_simp
    refine hK.out _ _ (fun _=>trivial) ?_
    clear hK K
    (try simp only [Act.put,List.setIfInBounds_toArray,List.set_cons_zero,List.set_cons_succ])
    have hcv:=Ka.out _ _ (heap_alloc_new w1 (.cells #[.int .u8 (48+(n:Int)%10)] 5))
    have HU:=hid (Ke.out.alloc (.cells #[.int .u8 (48+(n:Int)%10)] 5))
    refine wpAnyL_one 8 rfl (by kernel_rfl) (fun K hK=>?_)
    go_simp
    refine hK.out _ _ (fun _=>trivial) ?_
    clear hK K
    (try simp only [Act.put,List.setIfInBounds_toArray,List.set_cons_zero,List.set_cons_succ])
    clear hcv
    refine wpAnyL_one 9 rfl (by kernel_rfl) (fun K hK=>?_)
    go_simp
    refine hK.out _ _ (fun _=>trivial) ?_
    clear hK K
    (try simp only [Act.put,List.setIfInBounds_toArray,List.set_cons_zero,List.set_cons_succ])
    refine wpAnyL_one 10 rfl (by kernel_rfl) (fun K hK=>?_)
    go_simp
    refine hK.out _ _ (fun _=>trivial) ?_
    clear hK K
    (try simp only [Act.put,List.setIfInBounds_toArray,List.set_cons_zero,List.set_cons_succ])
    refine wpAnyL_done (by kernel_rfl) ?_ _
    go_wp2
    go_ret
    exact ⟨by rw [Kb.out];rfl,HU.out⟩
   ·skip
    go_simp
    refine hK.out _ _ (fun _=>trivial) ?_
    clear hK K
    (try simp only [Act.put,List.setIfInBounds_toArray,List.set_cons_zero,List.set_cons_succ])
    have hrow:(w.drew.alloc (.cells #[.int .u8 (48+(n:Int)%10)] 5)).heap[w.heap.size]? = some (.cells #[.int .u8 (48+(n:Int)%10)] 5 (0,0)):=heap_alloc_new w.drew (.cells #[.int .u8 (48+(n:Int)%10)] 5)
    have Kd:=hid ((Upd.refl (fun _=>False) w).drew.alloc (.cells #[.int .u8 (48+(n:Int)%10)] 5))
    refine wpAnyL_two 2 8 rfl rfl (by kernel_rfl) (fun K hK=>?_) (fun K hK=>?_)
    ·skip
     go_simp
     go_at_call 177
     refine (Kc.out _).mono ?_
     rintro e w2 ⟨rfl,hu⟩
     have hcv:=Ka.out _ _ (hu.get hrow (fun e=>e))
     have HU:=hid (Kd.out.trans hu (fun _ _ e=>e))
     clear hu
     refine hK.out _ _ (fun _=>trivial) ?_
     clear hK K
     (try simp only [Act.put,List.setIfInBounds_toArray,List.set_cons_zero,List.set_cons_succ])
     refine wpAnyL_one 8 rfl (by kernel_rfl) (fun K hK=>?_)
     go_simp
     refine hK.out _ _ (fun _=>trivial) ?_
     clear hK K
     (try simp only [Act.put,List.setIfInBounds_toArray,List.set_cons_zero,List.set_cons_succ])
     clear hcv
     refine wpAnyL_one 9 rfl (by kernel_rfl) (fun K hK=>?_)
     go_simp
     refine hK.out _ _ (fun _=>trivial) ?_
     clear hK K
     (try simp only [Act.put,List.setIfInBounds_toArray,List.set_cons_zero,List.set_cons_succ])
     refine wpAnyL_one 10 rfl (by kernel_rfl) (fun K hK=>?_)
     go_simp
     refine hK.out _ _ (fun _=>trivial) ?_
     clear hK K
     (try simp only [Act.put,List.setIfInBounds_toArray,List.set_cons_zero,List.set_cons_succ])
     refine wpAnyL_done (by kernel_rfl) ?_ _
     go_wp2
     go_ret
     exact ⟨by rw [Kb.out];rfl,HU.out⟩
    ·skip
     have hcv:=Ka.out (w.alloc (.cells #[.int .u8 (48+(n:Int)%10)] 5)).drew w.heap.size hrow
     go_simp
     refine hK.out _ _ (fun _=>trivial) ?_
     clear hK K
     (try simp only [Act.put,List.setIfInBounds_toArray,List.set_cons_zero,List.set_cons_succ])
     clear hcv
     refine wpAnyL_one 2 rfl (by kernel_rfl) (fun K hK=>?_)
     go_simp
     go_at_call 177
     refine (Kc.out _).mono ?_
     rintro e w2 ⟨rfl,hu⟩
     have HU:=hid (Kd.out.trans hu (fun _ _ e=>e))
     clear hu
     refine hK.out _ _ (fun _=>trivial) ?_
     clear hK K
     (try simp only [Act.put,List.setIfInBounds_toArray,List.set_cons_zero,List.set_cons_succ])
     refine wpAnyL_one 9 rfl (by kernel_rfl) (fun K hK=>?_)
     go_simp
     refine hK.out _ _ (fun _=>trivial) ?_
     clear hK K
     (try simp only [Act.put,List.setIfInBounds_toArray,List.set_cons_zero,List.set_cons_succ])
     refine wpAnyL_one 10 rfl (by kernel_rfl) (fun K hK=>?_)
     go_simp
     refine hK.out _ _ (fun _=>trivial) ?_
     clear hK K
     (try simp only [Act.put,List.setIfInBounds_toArray,List.set_cons_zero,List.set_cons_succ])
     refine wpAnyL_done (by kernel_rfl) ?_ _
     go_wp2
     go_ret
     exact ⟨by rw [Kb.out];rfl,HU.out⟩
theorem refRunName_any (w:World) (pre:ByteArray) (n:Int) (hp:pre.size≤140737488355328) (hn:n≤9223372036854775807) :
  Calls Tryz.prog 158 #[.string pre,.int .i64 n] w fun e w'=>e=.returned (.string (runName pre n))∧Upd (fun _=>False) w w':=by
 have hp1:¬(9223372036854775807<pre.size+4):=by omega
 by_cases h0:n<0
 ·have HF:=hid (show runName pre n=pre++runB from by unfold runName;rw [if_pos h0])
  go_enter Tryz.func158,Tryz.ntmps158
  go_wp2
  go_ret
  exact ⟨by rw [HF.out];rfl,Upd.refl _ _⟩
 ·obtain ⟨m,rfl⟩:∃m:Nat,n=(m:Int):=⟨n.toNat,by omega⟩
  have HF:=hid (show runName pre (m:Int)=pre++runB++decB m from by unfold runName;rw [if_neg h0];rfl)
  have HD:=hid (decimal_any m (by omega) w)
  have hp2:¬(9223372036854775807<pre.size+4+(decB m).size):=by have:=decB_size (n:=m) (by omega);omega
  go_enter Tryz.func158,Tryz.ntmps158
  go_wp2_with fail
  refine HD.out.mono ?_
  rintro e w1 ⟨rfl,hu⟩
  have HU:=hid hu
  clear hu
  go_wp2
  go_ret
  exact ⟨by rw [HF.out];rfl,HU.out⟩
theorem below_grow (w:World) (k:Nat) (os:Array Obj):Below w.heap.size w (Sort.grow (w.drewN k) os):=⟨rfl,rfl,rfl,(by show w.heap.size≤(w.heap++os).size;simp),fun j hj=>by show (w.heap++os)[j]? = _;rw [Array.getElem?_append_left hj]⟩
theorem itoa_upd (w:World) {m:Nat} (hm:m≤9223372036854775807) (htab:Lib.TabIs Tryz.prog w "internal/strconv.uint64pow10" .u64 Lib.pow10Tab) :
  Calls Tryz.prog 97 #[.int .i64 m] w fun e w'=>e=.returned (.string (decB m))∧Upd (fun _=>False) w w':=by
 refine (Tryz.strconv_Itoa (m:Int) (by omega) (by omega) w htab).mono ?_
 rintro e w' ⟨rfl,k,os,rfl⟩
 exact ⟨by rw [Lib.itoa_nonneg];rfl,Upd.of_below (below_grow w k os)⟩
theorem runName_any (w:World) (pre:ByteArray) (n:Int) (hp:pre.size≤140737488355328) (hn:n≤9223372036854775807) (htab:Lib.TabIs Tryz.prog w "internal/strconv.uint64pow10" .u64 Lib.pow10Tab) :
  Calls Tryz.prog 41 #[.string pre,.int .i64 n] w fun e w'=>e=.returned (.string (runName pre n))∧Upd (fun _=>False) w w':=by
 have hp1:¬(9223372036854775807<pre.size+4):=by omega
 by_cases h0:n<0
 ·have HF:=hid (show runName pre n=pre++runB from by unfold runName;rw [if_pos h0])
  go_enter Tryz.func41,Tryz.ntmps41
  go_wp2
  go_ret
  exact ⟨by rw [HF.out];rfl,Upd.refl _ _⟩
 ·obtain ⟨m,rfl⟩:∃m:Nat,n=(m:Int):=⟨n.toNat,by omega⟩
  have HF:=hid (show runName pre (m:Int)=pre++runB++decB m from by unfold runName;rw [if_neg h0];rfl)
  have HD:=hid (itoa_upd w (m:=m) (by omega) htab)
  have hp2:¬(9223372036854775807<pre.size+4+(decB m).size):=by have:=decB_size (n:=m) (by omega);omega
  clear htab
  go_enter Tryz.func41,Tryz.ntmps41
  go_wp2_with fail
  refine HD.out.mono ?_
  rintro e w1 ⟨rfl,hu⟩
  have HU:=hid hu
  clear hu
  go_wp2
  go_ret
  exact ⟨by rw [HF.out];rfl,HU.out⟩
end Go.Proofs.YtgaidmohdhaonaaGreatDoor
