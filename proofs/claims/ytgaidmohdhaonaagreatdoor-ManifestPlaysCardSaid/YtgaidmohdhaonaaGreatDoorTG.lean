/-
  (*World).plays of ManifestPlays, walked: no call, Swap, Arm.
-/
import Derived.Test.YtgaidmohdhaonaaGreatDoorTF
import Derived.Test.YtgaidmohdhaonaaGreatDoorTD
import Derived.Test.YtgaidmohdhaonaaGreatDoorTC
import Derived.Test.YtgaidmohdhaonaaGreatDoorSG
set_option linter.unusedVariables false
set_option linter.unusedSimpArgs false
set_option linter.unnecessarySimpa false
set_option linter.unusedSectionVars false
set_option maxRecDepth 100000
set_option maxHeartbeats 12800000
namespace Go.Proofs.YtgaidmohdhaonaaGreatDoor
open Go Go.RowKit
theorem plays_a {w W0:World} {sp rp pw:Nat} {pv:Value} {P:List ByteArray} {s:DS} {r:RS} {o:OpT} {q:OpQ} (hT:TabIn w) (hT2:TabP w) (hm:MP w W0 sp rp pv P s r s.abs [(pw,worldO sp rp pv)]) (hPl:1≤P.length∧P.length≤3) (hPs:∀p∈P,p.size≤140737488355328) (hq:OpAt w o q) (hin:OpIn o) (hkd:¬(1≤o.kind∧o.kind≤8)∨o.kind=2∨o.kind=4) :
  Calls Tryz.prog 51 #[.pointer (some ⟨pw,0,none⟩),.agg #[.int .i64 o.kind,.int .i64 o.obj,.int .i64 o.v.gen,.int .i64 o.v.flushed,.int .i64 o.v.next,.int .i64 o.v.low,.int .i64 o.v.clock,.slice q.s1 o.v.state.length q.d1,.slice q.s2 o.v.runs.length q.d2,.int .i64 o.n,.string o.name,.slice q.s3 o.b.length q.d3,.slice q.s4 o.cuts.length q.d4]] W0 fun e W'=>e=.returned (.bool true)∧∃s2 r2,MP w W' sp rp pv P s2 r2 s2.abs [(pw,worldO sp rp pv)]:=by
 have HT:=hid hT;have Km:=hid hT2;have Kg:=hid hPl;have Kh:=hid hPs;have HQ:=hid hq;have Kb:=hid hin
 obtain ⟨s1,d1,s2,d2,s3,d3,s4,d4⟩:=q
 obtain ⟨kd,ob,x,on,nm,bb,cuts⟩:=o
 simp only at *
 obtain ⟨m1,hm1⟩:∃m,m=x.state.length:=⟨_,rfl⟩
 obtain ⟨m2,hm2⟩:∃m,m=x.runs.length:=⟨_,rfl⟩
 obtain ⟨m3,hm3⟩:∃m,m=bb.length:=⟨_,rfl⟩
 obtain ⟨m4,hm4⟩:∃m,m=cuts.length:=⟨_,rfl⟩
 rw [←hm1,←hm2,←hm3,←hm4]
 have Ki:=hid hm1;have Kj:=hid hm2;have Kn:=hid hm3;have Ko:=hid hm4
 obtain ⟨pa,pc,rfl,hpl1,hpl2⟩:=hm.ps.shape
 obtain ⟨NP,hNP⟩:∃n,n=P.length:=⟨_,rfl⟩
 have Kk:=hid hNP
 rw [←hNP] at hpl1 hm⊢
 have hnp:1≤NP∧NP≤3:=by rw [hNP];exact Kg.out
 have HM:=hid hm
 have hobj : -9223372036854775808≤ob∧ob≤9223372036854775807:=hin.1
 clear hT hT2 hPl hPs hq hin hm1 hm2 hm3 hm4 hm hNP
 go_enter Tryz.func51,Tryz.ntmps51
 go_upto_region 1 with fail
 obtain ⟨FB,hFB⟩:∃O,O=Obj.cells #[.int .i64 kd,.int .i64 ob,.int .i64 x.gen,.int .i64 x.flushed,.int .i64 x.next,.int .i64 x.low,.int .i64 x.clock,.slice s1 m1 d1,.slice s2 m2 d2,.int .i64 on,.string nm,.slice s3 m3 d3,.slice s4 m4 d4] 109 (0,0):=⟨_,rfl⟩
 obtain ⟨W1,hW1⟩:∃W,W=W0.alloc FB:=⟨_,rfl⟩
 obtain ⟨fb,hfb⟩:∃p,p=W0.heap.size:=⟨_,rfl⟩
 have hmb:=HM.out.push FB
 rw [←hW1,←hfb] at hmb
 rw [hFB] at hW1
 rw [←hW1,←hfb]
 have Ka:=hid hFB
 clear HM hFB hW1
 have Kc:=hid hmb
 have HW:=hid (show (pw,worldO sp rp (.slice pa NP pc))∈[(fb,FB),(pw,worldO sp rp (.slice pa NP pc))] from by simp)
 have HF:=hid (show (fb,FB)∈[(fb,FB),(pw,worldO sp rp (.slice pa NP pc))] from by simp)
 obtain ⟨c0,c1,c2⟩:=worldCells (hmb.row HW.out)
 have f1:W1.cell? ⟨fb,1,none⟩=some (.int .i64 ob):=rowC (hmb.row HF.out) Ka.out 1
 have f0:W1.cell? ⟨fb,0,none⟩=some (.int .i64 kd):=rowC (hmb.row HF.out) Ka.out 0
 clear hfb hmb
 go_wp2_with fail
 go_quiet (fail)
 revert nq
 intro nq
 have hmd:=Kc.out.quiet ((Upd.refl (fun _=>False) W1).drewN nq)
 generalize W1.drewN nq=wq at hmd⊢
 have HM:=hid hmd
 clear c0 c1 c2 f0 f1
 obtain ⟨c0,c1,c2⟩:=worldCells (hmd.row HW.out)
 have f0:wq.cell? ⟨fb,0,none⟩=some (.int .i64 kd):=rowC (hmd.row HF.out) Ka.out 0
 have hb1 : -(NP:Int)<ob.tmod NP:=Int.lt_tmod_of_pos ob (by omega)
 have hb2:ob.tmod NP<(NP:Int):=Int.tmod_lt_of_pos ob (by omega)
 generalize ob.tmod (NP:Int)=t at hb1 hb2⊢
 clear hmd Kc hobj
 go_upto_if 38 with fail
 go_cut [5] (fun kv wx=>∃k:Nat,k<NP∧kv=.int .i64 k∧wx=wq)
 case first=>
  by_cases ht:t<0
  ·go_wp2
   go_meet
   exact ⟨(t+NP).toNat,by omega,by rw [Int.toNat_of_nonneg (by omega)],rfl⟩
  ·go_wp2
   go_meet
   exact ⟨t.toNat,by omega,by rw [Int.toNat_of_nonneg (by omega)],rfl⟩
 case rest=>
  obtain ⟨k,hk,rfl,hww⟩:=hcut
  obtain rfl:=hww.symm
  clear hww hb1 hb2
  have hkp:k<P.length:=by have:=Kk.out;omega
  obtain ⟨g,c,eg,hgl,hcell⟩:=HM.out.ps.at hkp
  injection eg with eg1 eg2 eg3
  subst eg1;subst eg3
  clear eg2
  obtain ⟨pre,hpre⟩:∃p,p=P[k]:=⟨_,rfl⟩
  have hps:pre.size≤140737488355328:=by rw [hpre];exact Kh.out _ (List.getElem_mem hkp)
  rw [←hpre] at hcell
  clear hpre hkp
  rcases hkd with hkd|hkd|hkd
  ·skip
   have hks:(kd==1)=false∧(kd==2)=false∧(kd==3)=false∧(kd==4)=false∧(kd==5)=false∧(kd==6)=false∧(kd==7)=false∧(kd==8)=false:=by
    simp only [beq_eq_false_iff_ne]
    omega
   obtain ⟨k1,k2,k3,k4,k5,k6,k7,k8⟩:=hks
   go_wp2
   go_ret
   exact ⟨rfl,s,r,HM.out.sub (fun y hy=>List.mem_cons_of_mem _ hy)⟩
  ·subst hkd
   have hv:=(HQ.out.keep HM.out.upd).ver
   simp only at hv
   rw [←Ki.out,←Kj.out] at hv
   have Kd:=hid (swaps_any HT.out HM.out HW.out pre hps hv Kb.out.2.2.2.2)
   have g2:wq.cell? ⟨fb,2,none⟩=some (.int .i64 x.gen):=rowC (HM.out.row HF.out) Ka.out 2
   have g3:wq.cell? ⟨fb,3,none⟩=some (.int .i64 x.flushed):=rowC (HM.out.row HF.out) Ka.out 3
   have g4:wq.cell? ⟨fb,4,none⟩=some (.int .i64 x.next):=rowC (HM.out.row HF.out) Ka.out 4
   have g5:wq.cell? ⟨fb,5,none⟩=some (.int .i64 x.low):=rowC (HM.out.row HF.out) Ka.out 5
   have g6:wq.cell? ⟨fb,6,none⟩=some (.int .i64 x.clock):=rowC (HM.out.row HF.out) Ka.out 6
   have g7:wq.cell? ⟨fb,7,none⟩=some (.slice s1 m1 d1):=rowC (HM.out.row HF.out) Ka.out 7
   have g8:wq.cell? ⟨fb,8,none⟩=some (.slice s2 m2 d2):=rowC (HM.out.row HF.out) Ka.out 8
   clear hv
   go_wp2_with fail
   refine Kd.out.mono ?_
   rintro e W2 ⟨rfl,sn,rn,hm2⟩
   have Ke:=hid hm2
   clear hm2
   go_wp2
   go_ret
   exact ⟨rfl,sn,rn,Ke.out.sub (fun y hy=>List.mem_cons_of_mem _ hy)⟩
  ·subst hkd
   have hon:on≤9223372036854775807:=Kb.out.2.1.2
   have hmd:=HM.out.quiet ((Upd.refl (fun _=>False) wq).drew)
   clear HM
   have HM:=hid hmd
   clear hmd
   have Kl:=hid (show Calls Tryz.prog 38 #[.pointer (some ⟨sp,0,none⟩),.int .i64 on] wq.drew (fun e w'=>e=.returned (.tuple #[])∧Step wq.drew w' s (if s.down then s else { s with armed:=max on 0 })) from by rw [←HM.out.spp];exact arm_any HM.out.sin on hon)
   go_upto_region 25 with fail
   have hHeld:(fun V=>V.cell? ⟨pw,0,none⟩=some (.pointer (some ⟨sp,0,none⟩))∧V.cell? ⟨pw,1,none⟩=some (.pointer (some ⟨rp,0,none⟩))∧V.cell? ⟨fb,9,none⟩=some (.int .i64 on)) wq.drew:=⟨(worldCells (HM.out.row HW.out)).1,(worldCells (HM.out.row HW.out)).2.1,rowC (HM.out.row HF.out) Ka.out 9⟩
   refine wp_region_l (fun V=>V.cell? ⟨pw,0,none⟩=some (.pointer (some ⟨sp,0,none⟩))∧V.cell? ⟨pw,1,none⟩=some (.pointer (some ⟨rp,0,none⟩))∧V.cell? ⟨fb,9,none⟩=some (.int .i64 on)) 6 7 rfl (by kernel_rfl) ?_
   refine' tk 0 [1,2,3,6] (y:=?y25_0) (r:=?r25_0)
   case y25_0=>(intro wS hSw;go_simp;(try with_reducible rfl))
   refine' tk 1 [2,3,6] (y:=?y25_1) (r:=?r25_1)
   case y25_1=>(intro wS hSw;go_simp;(try with_reducible rfl))
   refine' tk 2 [3,6] (y:=?y25_2) (r:=?r25_2)
   case y25_2=>(intro wS hSw;go_simp;(try with_reducible rfl))
   refine' tk 3 [6] (y:=?y25_3) (r:=?r25_3)
   case y25_3=>(intro wS hSw;obtain ⟨g0,g1,g9⟩:=hSw;go_simp;(try with_reducible rfl))
   (try simp only [Act.put,sA,sZ,sS])
   refine' tk 4 [5,6] (y:=?y25_4) (r:=?r25_4)
   case y25_4=>(intro wS hSw;go_simp;(try with_reducible rfl))
   refine' tk 5 [6] (y:=?y25_5) (r:=?r25_5)
   case y25_5=>(intro wS hSw;obtain ⟨g0,g1,g9⟩:=hSw;go_simp;(try with_reducible rfl))
   (try simp only [Act.put,sA,sZ,sS])
   refine wpAnyL_one 6 rfl (by kernel_rfl) (fun K hK=>?_)
   go_simp
   go_at_call 38
   refine Kl.out.mono ?_
   rintro e W2 ⟨rfl,hst2⟩
   have hmq:=HM.out.stepD hst2
   clear HM
   have HM:=hid hmq
   clear hmq hst2
   have hHeld2:(fun V=>V.cell? ⟨pw,0,none⟩=some (.pointer (some ⟨sp,0,none⟩))∧V.cell? ⟨pw,1,none⟩=some (.pointer (some ⟨rp,0,none⟩))∧V.cell? ⟨fb,9,none⟩=some (.int .i64 on)) W2:=⟨(worldCells (HM.out.row HW.out)).1,(worldCells (HM.out.row HW.out)).2.1,rowC (HM.out.row HF.out) Ka.out 9⟩
   refine hK.out _ _ (fun h=>absurd rfl h) ?_
   clear hK K
   (try simp only [Act.put,sA,sZ,sS])
   refine wpAnyL_done (by kernel_rfl) ?_ _
   clear hHeld hHeld2
   have hmd:=HM.out.quiet ((Upd.refl (fun _=>False) W2).drew)
   clear HM
   have HM:=hid hmd
   clear hmd
   have Kf:=hid (HM.out.ra.arm on hon)
   rw [HM.out.rpp] at Kf
   go_upto_region 26 with fail
   have hHeld:(fun V=>V.cell? ⟨pw,0,none⟩=some (.pointer (some ⟨sp,0,none⟩))∧V.cell? ⟨pw,1,none⟩=some (.pointer (some ⟨rp,0,none⟩))∧V.cell? ⟨fb,9,none⟩=some (.int .i64 on)) W2.drew:=⟨(worldCells (HM.out.row HW.out)).1,(worldCells (HM.out.row HW.out)).2.1,rowC (HM.out.row HF.out) Ka.out 9⟩
   refine wp_region_l (fun V=>V.cell? ⟨pw,0,none⟩=some (.pointer (some ⟨sp,0,none⟩))∧V.cell? ⟨pw,1,none⟩=some (.pointer (some ⟨rp,0,none⟩))∧V.cell? ⟨fb,9,none⟩=some (.int .i64 on)) 6 7 rfl (by kernel_rfl) ?_
   refine' tk 0 [1,2,3,6] (y:=?y26_0) (r:=?r26_0)
   case y26_0=>(intro wS hSw;go_simp;(try with_reducible rfl))
   refine' tk 1 [2,3,6] (y:=?y26_1) (r:=?r26_1)
   case y26_1=>(intro wS hSw;go_simp;(try with_reducible rfl))
   refine' tk 2 [3,6] (y:=?y26_2) (r:=?r26_2)
   case y26_2=>(intro wS hSw;go_simp;(try with_reducible rfl))
   refine' tk 3 [6] (y:=?y26_3) (r:=?r26_3)
   case y26_3=>(intro wS hSw;obtain ⟨g0,g1,g9⟩:=hSw;go_simp;(try with_reducible rfl))
   (try simp only [Act.put,sA,sZ,sS])
   refine' tk 4 [5,6] (y:=?y26_4) (r:=?r26_4)
   case y26_4=>(intro wS hSw;go_simp;(try with_reducible rfl))
   refine' tk 5 [6] (y:=?y26_5) (r:=?r26_5)
   case y26_5=>(intro wS hSw;obtain ⟨g0,g1,g9⟩:=hSw;go_simp;(try with_reducible rfl))
   (try simp only [Act.put,sA,sZ,sS])
   refine wpAnyL_one 6 rfl (by kernel_rfl) (fun K hK=>?_)
   go_simp
   go_at_call 116
   refine Kf.out.mono ?_
   rintro e W3 ⟨rfl,r3,hg3⟩
   have hmq:=HM.out.stepR hg3
   clear HM
   have HM:=hid hmq
   clear hmq hg3
   have hHeld3:(fun V=>V.cell? ⟨pw,0,none⟩=some (.pointer (some ⟨sp,0,none⟩))∧V.cell? ⟨pw,1,none⟩=some (.pointer (some ⟨rp,0,none⟩))∧V.cell? ⟨fb,9,none⟩=some (.int .i64 on)) W3:=⟨(worldCells (HM.out.row HW.out)).1,(worldCells (HM.out.row HW.out)).2.1,rowC (HM.out.row HF.out) Ka.out 9⟩
   refine hK.out _ _ (fun h=>absurd rfl h) ?_
   clear hK K
   (try simp only [Act.put,sA,sZ,sS])
   refine wpAnyL_done (by kernel_rfl) ?_ _
   go_wp2
   go_ret
   refine ⟨rfl,if s.down then s else { s with armed:=max on 0 },r3,?_⟩
   have h:=HM.out.sub (R':=[(pw,worldO sp rp (.slice (some ⟨g,0,none⟩) NP pc))]) (fun y hy=>List.mem_cons_of_mem _ hy)
   rw [←armP_abs] at h
   exact h
end Go.Proofs.YtgaidmohdhaonaaGreatDoor
