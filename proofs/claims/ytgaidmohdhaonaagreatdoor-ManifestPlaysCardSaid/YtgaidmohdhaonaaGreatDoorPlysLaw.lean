/-
  PROVED HERE: Rows.ManifestPlaysCardSaid: stratalaw10.ManifestPlays answers true at every input, in every world in which the four tables hold what their text lays, and each argument reads afterwards as it read before.
-/
import Derived.Test.YtgaidmohdhaonaaGreatDoorTK
import Derived.Test.YtgaidmohdhaonaaGreatDoorZA
import Derived.Test.YtgaidmohdhaonaaGreatDoorCards
import Derived.Test.YtgaidmohdhaonaaGreatDoorTie
import Derived.OpenShut
import Derived.Lib.LaidTab
set_option linter.unusedVariables false
set_option linter.unusedSimpArgs false
set_option linter.unnecessarySimpa false
set_option linter.unusedSectionVars false
set_option maxRecDepth 100000
namespace Go.Proofs.YtgaidmohdhaonaaGreatDoor
open Go Go.ChangeShapes Go.WideShapes Go.ChangeAt Go.RowKit
open Go.ChangeMaps (open_string shut_string)
theorem lmT {P:Program} {W:World} {x:String×DataW Unit} {rest:List (String×DataW Unit)} (h:laidMet P (x :: rest) W):laidMet P rest W:=by
 obtain ⟨ps,⟨g',t',cs,fuel,p,q,hg',ht',hvar,hd,hr,hps⟩,hn,hc⟩:=h
 subst hps
 rw [List.nodup_append] at hn
 exact ⟨q,hr,hn.2.1,fun b off hm=>hc b off (List.mem_append_right _ hm)⟩
theorem pow10_data:(Rows.laid_internal_strconv_uint64pow10:DataW Unit)=Lib.tabData .u64 Lib.pow10Tab:=rfl
theorem tables {W:World} (h:laidMetH Tryz.prog Rows.manifestPlaysRow.laid W):Lib.TabIs Tryz.prog W "internal/strconv.uint64pow10" .u64 Lib.pow10Tab∧TabIn W:=by
 have h0:laidMet Tryz.prog Rows.manifestPlaysRow.laid W:=h
 have h1:laidMet Tryz.prog [("internal/strconv.uint64pow10",Rows.laid_internal_strconv_uint64pow10),("strata/wire.table",Rows.laid_strata_wire_table)] W:=lmT (lmT h0)
 have h2:laidMet Tryz.prog [("strata/wire.table",Rows.laid_strata_wire_table)] W:=lmT h1
 rw [pow10_data] at h1
 exact ⟨Lib.tabIs_of_head (rest:=[("strata/wire.table",Rows.laid_strata_wire_table)]) (g:=2) (t:=258) (e:=130) (n:=20) (by kernel_rfl) (by kernel_rfl) Tryz.underlying258 Tryz.underlying130 (by kernel_rfl) (by kernel_rfl) h1,tabIn_of (rest:=[]) h2⟩
def tab32:List Int:=[0,1,28,2,29,14,24,3,30,22,20,15,25,17,4,8,31,27,13,23,21,19,16,7,26,12,18,6,11,5,10,9]
def tab64:List Int:=[0,1,56,2,57,49,28,3,61,58,42,50,38,29,17,4,62,47,59,36,45,43,51,22,53,39,33,30,24,18,12,5,63,55,48,27,60,41,37,16,46,35,44,21,52,32,23,11,54,26,40,15,34,20,31,10,25,14,19,9,13,8,7,6]
section
variable {H:Type} {enc:TypeId×Value→H} {W:World} {base:Nat}
theorem open_strsV {fuel:Nat} {v:Value} {x:DataW H×List MemPlace} (h:DataW.trod enc Tryz.prog W 0 (fun _=>true) true fuel 73 [v]=some x) (hs:Sized 73 x.1) :
  ∃l,StrsAt W v l∧∀s∈l,s.size≤140737488355328:=by
 rcases open_strings Tryz.underlying73 Tryz.underlying9 (by kernel_rfl) h with ⟨hcs,_⟩|⟨a,len,cap,ss,hcs,_,hl,hm,hz,rfl,hcell,hwz⟩
 ·obtain rfl:v=.slice none 0 0:=by simpa using hcs
  exact ⟨[],⟨none,0,rfl,by simp,by simp,fun k hk=>by simp at hk⟩,fun s hs=>by cases hs⟩
 ·obtain rfl:v=.slice (some a) len cap:=by simpa using hcs
  simp only [if_true] at hz
  have hlen:(ss.take len).length=len:=by simp;omega
  have hm':cap≤9223372036854775807:=by simpa [maxLen] using Nat.le_trans hm (by decide:maxLen≤maxLen)
  refine ⟨ss.take len,⟨some a,cap,by rw [hlen],by omega,hm',fun k hk=>?_⟩,fun s hsm=>?_⟩
  ·have hk':k<ss.length:=by simp at hk;omega
   have hs:a.spot=none:=World.cell?_spot (by simpa [Addr.add] using hcell 0 (by omega))
   have hblt:=block_lt (hcell k hk')
   obtain ⟨b,o,sp⟩:=a
   simp only at hs
   subst hs
   have hc:=hcell k hk'
   rw [Addr.add_lit] at hc hblt
   refine ⟨b,o,rfl,hblt,?_⟩
   rw [hc]
   congr 2
   simp [List.getD,List.getElem?_eq_getElem hk']
  ·have h1:=hs s.data.toList.length (by
    simp only [DataW.weights,Tryz.underlying73,List.mem_cons,List.mem_append]
    exact .inr (.inl (weightsAll_mem (d:=.lit (.string s.data.toList)) (List.mem_map.2 ⟨s,hsm,rfl⟩) _ (by simp [DataW.weights]))))
   have h2:s.data.toList.length=s.size:=by simp
   omega
end
noncomputable def mpW (os:Os):World:=
 { World.holding Tryz.prog os ⟨#[],#[.int .i64 0,.slice none 0 0,.slice none 0 0],[]⟩ with heap:=(((((World.holding Tryz.prog os ⟨#[],#[.int .i64 0,.slice none 0 0,.slice none 0 0],[]⟩).heap.modify 0 (fun
   | .cells _ t frozen=>.cells (crcTab.map (fun n:Nat=>Value.int .u32 (n:Int))).toArray t frozen
   | o=>o)).modify 2 (fun
   | .cells _ t frozen=>.cells (Lib.pow10Tab.map (Value.int .u64)).toArray t frozen
   | o=>o)).modify 3 (fun
   | .cells _ t frozen=>.cells (tab32.map (Value.int .u8)).toArray t frozen
   | o=>o)).modify 4 (fun
   | .cells _ t frozen=>.cells (tab64.map (Value.int .u8)).toArray t frozen
   | o=>o)) }
theorem manifestPlays_met (os:Os):laidMetH Tryz.prog Rows.manifestPlaysRow.laid ((mpW os).forCall (fun _ _=>0) ⟨#[],#[.int .i64 0,.slice none 0 0,.slice none 0 0],[]⟩).memory:=
 laidMet_of_run' 8 (by kernel_rfl) (by kernel_rfl)
theorem manifestPlays_read (os:Os) {H:Type} (enc:TypeId×Value→H):∃places,DataW.whole enc Tryz.prog ((mpW os).forCall (fun _ _=>0) ⟨#[],#[.int .i64 0,.slice none 0 0,.slice none 0 0],[]⟩).memory Tryz.f9.params.toList Rows.manifestPlaysSpec.vars false (#[.int .i64 0,.slice none 0 0,.slice none 0 0]:Array Value).toList 8=some ([.lit (.int .i64 0),.nil,.nil],[],places):=
 ⟨[],by kernel_rfl⟩
theorem mpL (os:Os) (started:os.Started) (H:Type) (enc:TypeId×Value→H) (F:Stop.Interp) :
  ReturnsInHanded {} Tryz.checked os 9 .any ((OpenSpec.ofChange Rows.manifestPlaysSpec).preRow enc Tryz.prog Tryz.f9 Rows.manifestPlaysRow.domain false Rows.manifestPlaysRow.laid) (((OpenSpec.ofChange Rows.manifestPlaysSpec).at F).post enc Tryz.prog Tryz.f9 false true false false):=by
 obtain ⟨places,hx⟩:=manifestPlays_read os enc
 refine returnsInHanded_of_row (C:=Tryz.checked) (s:=OpenSpec.ofChange Rows.manifestPlaysSpec) own started (by kernel_rfl) Tryz.func9
  (witness_row_at (enc:=enc) (C:=Tryz.checked) false (mpW os) #[.int .i64 0,.slice none 0 0,.slice none 0 0] rfl (by kernel_rfl) (by kernel_rfl) (by kernel_rfl)
   (OpenSpec.preRow_of_cond 8 hx (by kernel_rfl) (fun k hk=>by cases hk) (by kernel_rfl) (manifestPlays_met os))) ?_
 intro W base args ds gs before hval0 hW _ _ hsz hL _ _
 have hval:∀(j:Nat) t v,Tryz.f9.params[j]? = some t→args[j]? = some v→Value.okWide Tryz.prog W .any base t v:=hval0
 have hW':=hW
 obtain ⟨p,q,hA0,hV,rfl,hfz,hnd⟩:=hW
 have hA:DataW.TrodAll enc Tryz.prog W 0 (fun _=>true) true Tryz.f9.params.toList args.toList ds p:=hA0
 rw [Tryz.params9] at hA hsz hval
 obtain ⟨v0,vs0,d0,ds0,p0,q0,hargs,rfl,rfl,h0,r0⟩:=trodAll_cons hA
 obtain ⟨v1,vs1,d1,ds1,p1,q1,rfl,rfl,rfl,h1,r1⟩:=trodAll_cons r0
 obtain ⟨v2,vs2,d2,ds2,p2,q2,rfl,rfl,rfl,h2,r2⟩:=trodAll_cons r1
 obtain ⟨rfl,rfl,rfl⟩:=trodAll_nil r2
 obtain rfl:args=#[v0,v1,v2]:=by cases args;simp_all
 obtain ⟨rfl,rfl⟩:=trodVars_none hV
 obtain ⟨a0,rfl,rfl,rfl,w0⟩:=open_int Tryz.underlying3 (hval 0 3 v0 rfl rfl) h0
 have hr0:=bounds_i64 w0
 have k1:=h1
 have lt1:∀x∈p1,x.block<W.heap.size:=by obtain ⟨m,hm⟩:=k1;exact DataW.trod_lt m _ _ _ hm
 obtain ⟨a1,len1,cap1,rfl⟩:=okWide_slice Tryz.underlying73 (hval 1 73 v1 rfl rfl)
 obtain ⟨ss1,hb1,hz1⟩:∃l,StrsAt W (.slice a1 len1 cap1) l∧∀s∈l,s.size≤140737488355328:=by
  obtain ⟨fuel,hf⟩:=h1
  exact open_strsV hf (sized_of hsz (j:=1) rfl rfl)
 have k2:=h2
 have lt2:∀x∈p2,x.block<W.heap.size:=by obtain ⟨m,hm⟩:=k2;exact DataW.trod_lt m _ _ _ hm
 obtain ⟨a2,len2,cap2,rfl⟩:=okWide_slice Tryz.underlying104 (hval 2 104 v2 rfl rfl)
 obtain ⟨os2,hb2,hin2⟩:∃l,OpsAtT W (.slice a2 len2 cap2) l∧∀r∈l,OpIn r:=by
  obtain ⟨fuel,hf⟩:=h2
  exact open_opsT hf (sized_of hsz (j:=2) rfl rfl)
 obtain ⟨htab,hT⟩:=tables hL
 clear hA0 hval0
 refine (manifestPlays_walk hT htab hr0 hb1 hz1 hb2 hin2).mono fun e W' ⟨he,hu⟩=>?_
 subst he
 have bel:Below W.heap.size W W':=hu.below (Nat.le_refl _) (fun _ e=>e.elim)
 exact ⟨_,rfl,_,_,_,[],_,[],hW',trodAll_mk1 (shut_bool Tryz.underlying4 _),(trodAll_cons_mk (shut_int Tryz.underlying3 w0) (trodAll_cons_mk (Below.trod laidOut (by kernel_rfl) (of_decide_eq_true (by kernel_rfl)) k1 bel lt1) (trodAll_cons_mk (Below.trod laidOut (by kernel_rfl) (of_decide_eq_true (by kernel_rfl)) k2 bel lt2) trodAll_mk0))),rfl,bel.frame _,fun h=>by cases h⟩
theorem manifestPlays_said:Rows.ManifestPlaysSaid:=
 OpenClaim.holds_of_cond 9 Tryz.f9 rfl rfl rfl rfl rfl rfl rfl ⟨rfl,rfl,rfl,rfl,rfl⟩ rfl rfl rfl rfl rfl (by kernel_rfl) Tryz.func9 (by kernel_rfl)
  (of_decide_eq_true (by kernel_rfl)) (by unfold Func.isWrapper;first|(rw [if_pos (by decide +kernel)];kernel_rfl)|(rw [if_neg (by decide +kernel)];exact ⟨rfl,rfl⟩))
  (fun os started H enc _ F=>by rw [OpenClaim.pre_eq_preRow];exact mpL os started H enc F)
theorem mpP (f:FuncId) (fn:Func) (hf:Tryz.pinned.checked.prog.funcNamed "strata/stratalaw10.ManifestPlays"=some f) (hfn:Tryz.pinned.checked.prog.funcs[f]? = some fn) :
  false=Tryz.pinned.checked.prog.looks []∧∀(j:Nat) t,fn.params[j]? = some t→Tryz.pinned.checked.prog.wantsStandIn t=false:=by
 obtain rfl:f=9:=Option.some.inj ((show Tryz.prog.funcNamed "strata/stratalaw10.ManifestPlays"=some 9 by kernel_rfl).symm.trans hf) |>.symm
 obtain rfl:fn=Tryz.f9:=(Option.some.inj (Tryz.func9.symm.trans hfn)).symm
 refine ⟨by kernel_rfl,fun j t ht=>?_⟩
 rw [Tryz.params9] at ht
 have hm:t∈[3,73,104]:=by simpa using Array.mem_of_getElem? ht
 have hall:([3,73,104].all fun u=>!Tryz.prog.wantsStandIn u)=true:=by kernel_rfl
 exact (show Tryz.prog.wantsStandIn t=false by simpa using List.all_eq_true.1 hall t hm)
theorem manifestPlays_card:Rows.ManifestPlaysCardSaid:=
 Claim7.holds_tied_plain_at .later [] _ _ _ _ manifestPlays_said (fun _ h=>by cases h) (by kernel_rfl) (fun _ h=>by cases h) manifestPlays_row_tie rfl ⟨rfl,rfl⟩ (by kernel_rfl) rfl mpP (by kernel_rfl)
#print axioms manifestPlays_card
end Go.Proofs.YtgaidmohdhaonaaGreatDoor
