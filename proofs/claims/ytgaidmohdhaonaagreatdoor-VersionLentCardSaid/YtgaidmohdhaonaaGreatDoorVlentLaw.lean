/-
  PROVED HERE: Rows.VersionLentCardSaid: stratalaw10.VersionLent answers true at every input, in every world in which the four tables hold what their text lays, and each argument reads afterwards as it read before.
-/
import Derived.Test.YtgaidmohdhaonaaGreatDoorLH
import Derived.Test.YtgaidmohdhaonaaGreatDoorZA
import Derived.Test.YtgaidmohdhaonaaGreatDoorCards
import Derived.Test.YtgaidmohdhaonaaGreatDoorTie
import Derived.OpenShut
import Derived.Lib.LaidTab
set_option linter.unusedVariables false
set_option linter.unusedSimpArgs false
set_option linter.unnecessarySimpa false
set_option linter.unusedSectionVars false
set_option maxRecDepth 100000
namespace Go.Proofs.YtgaidmohdhaonaaGreatDoor
open Go Go.ChangeShapes Go.WideShapes Go.ChangeAt Go.RowKit
open Go.ChangeMaps (open_string shut_string)
theorem laidMet_tail {P:Program} {W:World} {x:String×DataW Unit} {rest:List (String×DataW Unit)} (h:laidMet P (x :: rest) W):laidMet P rest W:=by
 obtain ⟨ps,⟨g',t',cs,fuel,p,q,hg',ht',hvar,hd,hr,hps⟩,hn,hc⟩:=h
 subst hps
 rw [List.nodup_append] at hn
 exact ⟨q,hr,hn.2.1,fun b off hm=>hc b off (List.mem_append_right _ hm)⟩
theorem pow10_data:(Rows.laid_internal_strconv_uint64pow10:DataW Unit)=Lib.tabData .u64 Lib.pow10Tab:=rfl
theorem tables {W:World} (h:laidMetH Tryz.prog Rows.versionLentRow.laid W):Lib.TabIs Tryz.prog W "internal/strconv.uint64pow10" .u64 Lib.pow10Tab∧TabIn W:=by
 have h0:laidMet Tryz.prog Rows.versionLentRow.laid W:=h
 have h1:laidMet Tryz.prog [("internal/strconv.uint64pow10",Rows.laid_internal_strconv_uint64pow10),("strata/wire.table",Rows.laid_strata_wire_table)] W:=laidMet_tail (laidMet_tail h0)
 have h2:laidMet Tryz.prog [("strata/wire.table",Rows.laid_strata_wire_table)] W:=laidMet_tail h1
 rw [pow10_data] at h1
 exact ⟨Lib.tabIs_of_head (rest:=[("strata/wire.table",Rows.laid_strata_wire_table)]) (g:=2) (t:=258) (e:=130) (n:=20) (by kernel_rfl) (by kernel_rfl) Tryz.underlying258 Tryz.underlying130 (by kernel_rfl) (by kernel_rfl) h1,tabIn_of (rest:=[]) h2⟩
def tab32:List Int:=[0,1,28,2,29,14,24,3,30,22,20,15,25,17,4,8,31,27,13,23,21,19,16,7,26,12,18,6,11,5,10,9]
def tab64:List Int:=[0,1,56,2,57,49,28,3,61,58,42,50,38,29,17,4,62,47,59,36,45,43,51,22,53,39,33,30,24,18,12,5,63,55,48,27,60,41,37,16,46,35,44,21,52,32,23,11,54,26,40,15,34,20,31,10,25,14,19,9,13,8,7,6]
noncomputable def versionLentWorld (os:Os):World:=
 { World.holding Tryz.prog os ⟨#[],#[.agg #[.int .i64 0,.int .i64 0,.int .i64 0,.int .i64 0,.int .i64 0,.slice none 0 0,.slice none 0 0],.agg #[.int .i64 0,.int .i64 0,.int .i64 0,.int .i64 0,.int .i64 0,.slice none 0 0,.slice none 0 0]],[]⟩ with heap:=(((((World.holding Tryz.prog os ⟨#[],#[.agg #[.int .i64 0,.int .i64 0,.int .i64 0,.int .i64 0,.int .i64 0,.slice none 0 0,.slice none 0 0],.agg #[.int .i64 0,.int .i64 0,.int .i64 0,.int .i64 0,.int .i64 0,.slice none 0 0,.slice none 0 0]],[]⟩).heap.modify 0 (fun
   | .cells _ t frozen=>.cells (crcTab.map (fun n:Nat=>Value.int .u32 (n:Int))).toArray t frozen
   | o=>o)).modify 2 (fun
   | .cells _ t frozen=>.cells (Lib.pow10Tab.map (Value.int .u64)).toArray t frozen
   | o=>o)).modify 3 (fun
   | .cells _ t frozen=>.cells (tab32.map (Value.int .u8)).toArray t frozen
   | o=>o)).modify 4 (fun
   | .cells _ t frozen=>.cells (tab64.map (Value.int .u8)).toArray t frozen
   | o=>o)) }
theorem versionLent_met (os:Os):laidMetH Tryz.prog Rows.versionLentRow.laid ((versionLentWorld os).forCall (fun _ _=>0) ⟨#[],#[.agg #[.int .i64 0,.int .i64 0,.int .i64 0,.int .i64 0,.int .i64 0,.slice none 0 0,.slice none 0 0],.agg #[.int .i64 0,.int .i64 0,.int .i64 0,.int .i64 0,.int .i64 0,.slice none 0 0,.slice none 0 0]],[]⟩).memory:=
 laidMet_of_run' 8 (by kernel_rfl) (by kernel_rfl)
theorem versionLent_read (os:Os) {H:Type} (enc:TypeId×Value→H):∃places,DataW.whole enc Tryz.prog ((versionLentWorld os).forCall (fun _ _=>0) ⟨#[],#[.agg #[.int .i64 0,.int .i64 0,.int .i64 0,.int .i64 0,.int .i64 0,.slice none 0 0,.slice none 0 0],.agg #[.int .i64 0,.int .i64 0,.int .i64 0,.int .i64 0,.int .i64 0,.slice none 0 0,.slice none 0 0]],[]⟩).memory Tryz.f8.params.toList Rows.versionLentSpec.vars false (#[.agg #[.int .i64 0,.int .i64 0,.int .i64 0,.int .i64 0,.int .i64 0,.slice none 0 0,.slice none 0 0],.agg #[.int .i64 0,.int .i64 0,.int .i64 0,.int .i64 0,.int .i64 0,.slice none 0 0,.slice none 0 0]]:Array Value).toList 8=some ([.agg [.lit (.int .i64 0),.lit (.int .i64 0),.lit (.int .i64 0),.lit (.int .i64 0),.lit (.int .i64 0),.nil,.nil],.agg [.lit (.int .i64 0),.lit (.int .i64 0),.lit (.int .i64 0),.lit (.int .i64 0),.lit (.int .i64 0),.nil,.nil]],[],places):=
 ⟨[],by kernel_rfl⟩
theorem versionLent_lifted (os:Os) (started:os.Started) (H:Type) (enc:TypeId×Value→H) (F:Stop.Interp) :
  ReturnsInHanded {} Tryz.checked os 8 .any ((OpenSpec.ofChange Rows.versionLentSpec).preRow enc Tryz.prog Tryz.f8 Rows.versionLentRow.domain false Rows.versionLentRow.laid) (((OpenSpec.ofChange Rows.versionLentSpec).at F).post enc Tryz.prog Tryz.f8 false true false false):=by
 obtain ⟨places,hx⟩:=versionLent_read os enc
 refine returnsInHanded_of_row (C:=Tryz.checked) (s:=OpenSpec.ofChange Rows.versionLentSpec) own started (by kernel_rfl) Tryz.func8
  (witness_row_at (enc:=enc) (C:=Tryz.checked) false (versionLentWorld os) #[.agg #[.int .i64 0,.int .i64 0,.int .i64 0,.int .i64 0,.int .i64 0,.slice none 0 0,.slice none 0 0],.agg #[.int .i64 0,.int .i64 0,.int .i64 0,.int .i64 0,.int .i64 0,.slice none 0 0,.slice none 0 0]] rfl (by kernel_rfl) (by kernel_rfl) (by kernel_rfl)
   (OpenSpec.preRow_of_cond 8 hx (by kernel_rfl) (fun k hk=>by cases hk) (by kernel_rfl) (versionLent_met os))) ?_
 intro W base args ds gs before hval0 hW _ _ hsz hL _ _
 have hval:∀(j:Nat) t v,Tryz.f8.params[j]? = some t→args[j]? = some v→Value.okWide Tryz.prog W .any base t v:=hval0
 have hW':=hW
 obtain ⟨p,q,hA0,hV,rfl,hfz,hnd⟩:=hW
 have hA:DataW.TrodAll enc Tryz.prog W 0 (fun _=>true) true Tryz.f8.params.toList args.toList ds p:=hA0
 rw [Tryz.params8] at hA hsz hval
 obtain ⟨v0,vs0,d0,ds0,p0,q0,hargs,rfl,rfl,h0,r0⟩:=trodAll_cons hA
 obtain ⟨v1,vs1,d1,ds1,p1,q1,rfl,rfl,rfl,h1,r1⟩:=trodAll_cons r0
 obtain ⟨rfl,rfl,rfl⟩:=trodAll_nil r1
 obtain rfl:args=#[v0,v1]:=by cases args;simp_all
 obtain ⟨rfl,rfl⟩:=trodVars_none hV
 have k0:=h0
 have lt0:∀x∈p0,x.block<W.heap.size:=by obtain ⟨m,hm⟩:=k0;exact DataW.trod_lt m _ _ _ hm
 obtain ⟨cs0,rfl,-⟩:=okWide_struct Tryz.underlying25 (hval 0 25 v0 rfl rfl)
 obtain ⟨x0,hb0,hin0⟩:∃y:VerA,VerAt W (.agg cs0) y∧VerIn y:=by
  obtain ⟨fuel,hf⟩:=h0
  have h:=open_ver (cs:=cs0.toList) hf (sized_of hsz (j:=0) rfl rfl)
  simpa using h
 have k1:=h1
 have lt1:∀x∈p1,x.block<W.heap.size:=by obtain ⟨m,hm⟩:=k1;exact DataW.trod_lt m _ _ _ hm
 obtain ⟨cs1,rfl,-⟩:=okWide_struct Tryz.underlying25 (hval 1 25 v1 rfl rfl)
 obtain ⟨x1,hb1,hin1⟩:∃y:VerA,VerAt W (.agg cs1) y∧VerIn y:=by
  obtain ⟨fuel,hf⟩:=h1
  have h:=open_ver (cs:=cs1.toList) hf (sized_of hsz (j:=1) rfl rfl)
  simpa using h
 obtain ⟨htab,hT⟩:=tables hL
 clear hA0 hval0
 refine (versionLent_walk hT htab hb0 hb1 hin0 hin1).mono fun e W' ⟨he,hu⟩=>?_
 subst he
 have bel:Below W.heap.size W W':=hu.below (Nat.le_refl _) (fun _ e=>e.elim)
 exact ⟨_,rfl,_,_,_,[],_,[],hW',trodAll_mk1 (shut_bool Tryz.underlying4 _),(trodAll_cons_mk (Below.trod laidOut (by kernel_rfl) (of_decide_eq_true (by kernel_rfl)) k0 bel lt0) (trodAll_cons_mk (Below.trod laidOut (by kernel_rfl) (of_decide_eq_true (by kernel_rfl)) k1 bel lt1) trodAll_mk0)),rfl,bel.frame _,fun h=>by cases h⟩
theorem versionLent_said:Rows.VersionLentSaid:=
 OpenClaim.holds_of_cond 8 Tryz.f8 rfl rfl rfl rfl rfl rfl rfl ⟨rfl,rfl,rfl,rfl,rfl⟩ rfl rfl rfl rfl rfl (by kernel_rfl) Tryz.func8 (by kernel_rfl)
  (of_decide_eq_true (by kernel_rfl)) (by unfold Func.isWrapper;first|(rw [if_pos (by decide +kernel)];kernel_rfl)|(rw [if_neg (by decide +kernel)];exact ⟨rfl,rfl⟩))
  (fun os started H enc _ F=>by rw [OpenClaim.pre_eq_preRow];exact versionLent_lifted os started H enc F)
theorem versionLent_plain (f:FuncId) (fn:Func) (hf:Tryz.pinned.checked.prog.funcNamed "strata/stratalaw10.VersionLent"=some f) (hfn:Tryz.pinned.checked.prog.funcs[f]? = some fn) :
  false=Tryz.pinned.checked.prog.looks []∧∀(j:Nat) t,fn.params[j]? = some t→Tryz.pinned.checked.prog.wantsStandIn t=false:=by
 obtain rfl:f=8:=Option.some.inj ((show Tryz.prog.funcNamed "strata/stratalaw10.VersionLent"=some 8 by kernel_rfl).symm.trans hf) |>.symm
 obtain rfl:fn=Tryz.f8:=(Option.some.inj (Tryz.func8.symm.trans hfn)).symm
 refine ⟨by kernel_rfl,fun j t ht=>?_⟩
 rw [Tryz.params8] at ht
 have hm:t∈[25,25]:=by simpa using Array.mem_of_getElem? ht
 have hall:([25,25].all fun u=>!Tryz.prog.wantsStandIn u)=true:=by kernel_rfl
 exact (show Tryz.prog.wantsStandIn t=false by simpa using List.all_eq_true.1 hall t hm)
theorem versionLent_card:Rows.VersionLentCardSaid:=
 Claim7.holds_tied_plain_at .later [] _ _ _ _ versionLent_said (fun _ h=>by cases h) (by kernel_rfl) (fun _ h=>by cases h) versionLent_row_tie rfl ⟨rfl,rfl⟩ (by kernel_rfl) rfl versionLent_plain (by kernel_rfl)
#print axioms versionLent_card
end Go.Proofs.YtgaidmohdhaonaaGreatDoor
