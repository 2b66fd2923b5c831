/-
  (*World).plays of ManifestPlays, walked: Crash, Create and Append, Flip.
-/
import Derived.Test.YtgaidmohdhaonaaGreatDoorTF
import Derived.Test.YtgaidmohdhaonaaGreatDoorTD
import Derived.Test.YtgaidmohdhaonaaGreatDoorTC
import Derived.Test.YtgaidmohdhaonaaGreatDoorSG
import Derived.Test.YtgaidmohdhaonaaGreatDoorRI
import Derived.Test.YtgaidmohdhaonaaGreatDoorYJ
set_option linter.unusedVariables false
set_option linter.unusedSimpArgs false
set_option linter.unnecessarySimpa false
set_option linter.unusedSectionVars false
set_option maxRecDepth 100000
set_option maxHeartbeats 12800000
namespace Go.Proofs.YtgaidmohdhaonaaGreatDoor
open Go Go.RowKit
theorem plays_b {w W0:World} {sp rp pw:Nat} {pv:Value} {P:List ByteArray} {s:DS} {r:RS} {o:OpT} {q:OpQ} (hT:TabIn w) (hT2:TabP w) (hm:MP w W0 sp rp pv P s r s.abs [(pw,worldO sp rp pv)]) (hPl:1≤P.length∧P.length≤3) (hPs:∀p∈P,p.size≤140737488355328) (hq:OpAt w o q) (hin:OpIn o) (hkd:o.kind=5∨o.kind=6∨o.kind=7) :
  Calls Tryz.prog 51 #[.pointer (some ⟨pw,0,none⟩),.agg #[.int .i64 o.kind,.int .i64 o.obj,.int .i64 o.v.gen,.int .i64 o.v.flushed,.int .i64 o.v.next,.int .i64 o.v.low,.int .i64 o.v.clock,.slice q.s1 o.v.state.length q.d1,.slice q.s2 o.v.runs.length q.d2,.int .i64 o.n,.string o.name,.slice q.s3 o.b.length q.d3,.slice q.s4 o.cuts.length q.d4]] W0 fun e W'=>e=.returned (.bool true)∧∃s2 r2,MP w W' sp rp pv P s2 r2 s2.abs [(pw,worldO sp rp pv)]:=by
 have HT:=hid hT;have Zc:=hid hT2;have Kt:=hid hPl;have Ku:=hid hPs;have HQ:=hid hq;have Kv:=hid hin
 obtain ⟨s1,d1,s2,d2,s3,d3,s4,d4⟩:=q
 obtain ⟨kd,ob,x,on,nm,bb,cuts⟩:=o
 simp only at *
 obtain ⟨m1,hm1⟩:∃m,m=x.state.length:=⟨_,rfl⟩
 obtain ⟨m2,hm2⟩:∃m,m=x.runs.length:=⟨_,rfl⟩
 obtain ⟨m3,hm3⟩:∃m,m=bb.length:=⟨_,rfl⟩
 obtain ⟨m4,hm4⟩:∃m,m=cuts.length:=⟨_,rfl⟩
 rw [←hm1,←hm2,←hm3,←hm4]
 have Zd:=hid hm1;have Ze:=hid hm2;have Kw:=hid hm3;have Kh:=hid hm4
 obtain ⟨pa,pc,rfl,hpl1,hpl2⟩:=hm.ps.shape
 obtain ⟨NP,hNP⟩:∃n,n=P.length:=⟨_,rfl⟩
 have Kx:=hid hNP
 rw [←hNP] at hpl1 hm⊢
 have hnp:1≤NP∧NP≤3:=by rw [hNP];exact Kt.out
 have HM:=hid hm
 have hobj : -9223372036854775808≤ob∧ob≤9223372036854775807:=hin.1
 clear hT hT2 hPl hPs hq hin hm1 hm2 hm3 hm4 hm hNP
 go_enter Tryz.func51,Tryz.ntmps51
 go_upto_region 1 with fail
 obtain ⟨FB,hFB⟩:∃O,O=Obj.cells #[.int .i64 kd,.int .i64 ob,.int .i64 x.gen,.int .i64 x.flushed,.int .i64 x.next,.int .i64 x.low,.int .i64 x.clock,.slice s1 m1 d1,.slice s2 m2 d2,.int .i64 on,.string nm,.slice s3 m3 d3,.slice s4 m4 d4] 109 (0,0):=⟨_,rfl⟩
 obtain ⟨W1,hW1⟩:∃W,W=W0.alloc FB:=⟨_,rfl⟩
 obtain ⟨fb,hfb⟩:∃p,p=W0.heap.size:=⟨_,rfl⟩
 have hmb:=HM.out.push FB
 rw [←hW1,←hfb] at hmb
 rw [hFB] at hW1
 rw [←hW1,←hfb]
 have Ka:=hid hFB
 clear HM hFB hW1
 have Ki:=hid hmb
 have HW:=hid (show (pw,worldO sp rp (.slice pa NP pc))∈[(fb,FB),(pw,worldO sp rp (.slice pa NP pc))] from by simp)
 have HF:=hid (show (fb,FB)∈[(fb,FB),(pw,worldO sp rp (.slice pa NP pc))] from by simp)
 obtain ⟨c0,c1,c2⟩:=worldCells (hmb.row HW.out)
 have f1:W1.cell? ⟨fb,1,none⟩=some (.int .i64 ob):=rowC (hmb.row HF.out) Ka.out 1
 have f0:W1.cell? ⟨fb,0,none⟩=some (.int .i64 kd):=rowC (hmb.row HF.out) Ka.out 0
 clear hfb hmb
 go_wp2_with fail
 go_quiet (fail)
 revert nq
 intro nq
 have hmd:=Ki.out.quiet ((Upd.refl (fun _=>False) W1).drewN nq)
 generalize W1.drewN nq=wq at hmd⊢
 have HM:=hid hmd
 clear c0 c1 c2 f0 f1
 obtain ⟨c0,c1,c2⟩:=worldCells (hmd.row HW.out)
 have f0:wq.cell? ⟨fb,0,none⟩=some (.int .i64 kd):=rowC (hmd.row HF.out) Ka.out 0
 have hb1 : -(NP:Int)<ob.tmod NP:=Int.lt_tmod_of_pos ob (by omega)
 have hb2:ob.tmod NP<(NP:Int):=Int.tmod_lt_of_pos ob (by omega)
 generalize ob.tmod (NP:Int)=t at hb1 hb2⊢
 clear hmd Ki hobj
 go_upto_if 38 with fail
 go_cut [5] (fun kv wx=>∃k:Nat,k<NP∧kv=.int .i64 k∧wx=wq)
 case first=>
  by_cases ht:t<0
  ·go_wp2
   go_meet
   exact ⟨(t+NP).toNat,by omega,by rw [Int.toNat_of_nonneg (by omega)],rfl⟩
  ·go_wp2
   go_meet
   exact ⟨t.toNat,by omega,by rw [Int.toNat_of_nonneg (by omega)],rfl⟩
 case rest=>
  obtain ⟨k,hk,rfl,hww⟩:=hcut
  obtain rfl:=hww.symm
  clear hww hb1 hb2
  have hkp:k<P.length:=by have:=Kx.out;omega
  obtain ⟨g,c,eg,hgl,hcell⟩:=HM.out.ps.at hkp
  injection eg with eg1 eg2 eg3
  subst eg1;subst eg3
  clear eg2
  obtain ⟨pre,hpre⟩:∃p,p=P[k]:=⟨_,rfl⟩
  have hps:pre.size≤140737488355328:=by rw [hpre];exact Ku.out _ (List.getElem_mem hkp)
  rw [←hpre] at hcell
  clear hpre hkp
  rcases hkd with hkd|hkd|hkd
  ·subst hkd
   have hcu:∀W,Upd (fun _=>False) w W→IntsAt W (.slice s4 m4 d4) cuts:=fun W hu=>by
    have h:=(HQ.out.keep hu).cu
    simp only at h
    rw [←Kh.out] at h
    exact h
   have hlo:∀a l c,Value.slice s4 m4 d4=.slice (some a) l c→0<l→a.block<w.heap.size:=by
    have h:=HQ.out.lo
    simp only at h
    rw [←Kh.out] at h
    exact h
   have Kj:=hid hcu;have Kc:=hid hlo
   clear hcu hlo
   have hmd:=HM.out.quiet ((Upd.refl (fun _=>False) wq).drew)
   clear HM
   have HM:=hid hmd
   clear hmd
   have Ke:=hid (crash_any HM.out.sin (Kj.out _ HM.out.upd) (fun a l c e h=>⟨HM.out.zero (Kc.out a l c e h),Nat.lt_of_lt_of_le (Kc.out a l c e h) HM.out.upd.size⟩))
   rw [HM.out.spp] at Ke
   obtain ⟨C,hC⟩:∃C,C=(crashF cuts s.abs.files).2:=⟨_,rfl⟩
   rw [←hC] at Ke
   have HC:=hid hC
   clear hC
   have Ky:=hid HM.out.sin
   go_upto_region 28 with fail
   have hHeld:(fun V=>V.cell? ⟨pw,0,none⟩=some (.pointer (some ⟨sp,0,none⟩))∧V.cell? ⟨pw,1,none⟩=some (.pointer (some ⟨rp,0,none⟩))∧V.cell? ⟨fb,12,none⟩=some (.slice s4 m4 d4)) wq.drew:=⟨(worldCells (HM.out.row HW.out)).1,(worldCells (HM.out.row HW.out)).2.1,rowC (HM.out.row HF.out) Ka.out 12⟩
   refine wp_region_l (fun V=>V.cell? ⟨pw,0,none⟩=some (.pointer (some ⟨sp,0,none⟩))∧V.cell? ⟨pw,1,none⟩=some (.pointer (some ⟨rp,0,none⟩))∧V.cell? ⟨fb,12,none⟩=some (.slice s4 m4 d4)) 15 16 rfl (by kernel_rfl) ?_
   refine' tk 0 [15] (y:=?y28_0) (r:=?r28_0)
   case y28_0=>(intro wS hSw;go_simp;(try with_reducible rfl))
   (try simp only [Act.put,sA,sZ,sS])
   refine' tk 1 [15] (y:=?y28_1) (r:=?r28_1)
   case y28_1=>(intro wS hSw;go_simp;(try with_reducible rfl))
   (try simp only [Act.put,sA,sZ,sS])
   refine' tk 2 [15] (y:=?y28_2) (r:=?r28_2)
   case y28_2=>(intro wS hSw;go_simp;(try with_reducible rfl))
   (try simp only [Act.put,sA,sZ,sS])
   refine' tk 3 [15] (y:=?y28_3) (r:=?r28_3)
   case y28_3=>(intro wS hSw;obtain ⟨g0,g1,g12⟩:=hSw;go_simp;(try with_reducible rfl))
   (try simp only [Act.put,sA,sZ,sS])
   refine' tk 4 [15] (y:=?y28_4) (r:=?r28_4)
   case y28_4=>(intro wS hSw;go_simp;(try with_reducible rfl))
   (try simp only [Act.put,sA,sZ,sS])
   refine' tk 5 [15] (y:=?y28_5) (r:=?r28_5)
   case y28_5=>(intro wS hSw;obtain ⟨g0,g1,g12⟩:=hSw;go_simp;(try with_reducible rfl))
   (try simp only [Act.put,sA,sZ,sS])
   refine' tk 7 [15] (y:=?y28_7) (r:=?r28_7)
   case y28_7=>(intro wS hSw;go_simp;(try with_reducible rfl))
   (try simp only [Act.put,sA,sZ,sS])
   refine' tk 8 [15] (y:=?y28_8) (r:=?r28_8)
   case y28_8=>(intro wS hSw;go_simp;(try with_reducible rfl))
   (try simp only [Act.put,sA,sZ,sS])
   refine' tk 9 [15] (y:=?y28_9) (r:=?r28_9)
   case y28_9=>(intro wS hSw;go_simp;(try with_reducible rfl))
   (try simp only [Act.put,sA,sZ,sS])
   refine' tk 10 [15] (y:=?y28_10) (r:=?r28_10)
   case y28_10=>(intro wS hSw;obtain ⟨g0,g1,g12⟩:=hSw;go_simp;(try with_reducible rfl))
   (try simp only [Act.put,sA,sZ,sS])
   refine' tk 11 [15] (y:=?y28_11) (r:=?r28_11)
   case y28_11=>(intro wS hSw;go_simp;(try with_reducible rfl))
   (try simp only [Act.put,sA,sZ,sS])
   refine' tk 12 [15] (y:=?y28_12) (r:=?r28_12)
   case y28_12=>(intro wS hSw;obtain ⟨g0,g1,g12⟩:=hSw;go_simp;(try with_reducible rfl))
   (try simp only [Act.put,sA,sZ,sS])
   refine wpAnyL_one 6 rfl (by kernel_rfl) (fun K hK=>?_)
   go_simp
   go_at_call 40
   refine Ke.out.mono ?_
   rintro e W2 ⟨rfl,sn,hst2,habs2⟩
   have Kb:=hid habs2
   clear habs2
   have hmq:=HM.out.stepD hst2
   clear HM
   have HM:=hid hmq
   clear hmq hst2
   have Kk:=hid (RA.crash Ky.out HM.out.sin HM.out.ra Kb.out (Kj.out _ HM.out.upd) (fun a l c e h=>⟨fun e2=>by have h1:=HM.out.lowr _ e2;have h2:=Kc.out a l c e h;omega,Nat.lt_of_lt_of_le (Kc.out a l c e h) HM.out.upd.size⟩))
   rw [HM.out.rpp,←HC.out] at Kk
   have hHeld2:(fun V=>V.cell? ⟨pw,0,none⟩=some (.pointer (some ⟨sp,0,none⟩))∧V.cell? ⟨pw,1,none⟩=some (.pointer (some ⟨rp,0,none⟩))∧V.cell? ⟨fb,12,none⟩=some (.slice s4 m4 d4)) W2:=⟨(worldCells (HM.out.row HW.out)).1,(worldCells (HM.out.row HW.out)).2.1,rowC (HM.out.row HF.out) Ka.out 12⟩
   refine hK.out _ _ (fun _=>hHeld2) ?_
   clear hK K
   (try simp only [Act.put,sA,sZ,sS])
   refine wpAnyL_one 13 rfl (by kernel_rfl) (fun K hK=>?_)
   go_simp
   go_at_call 117
   refine Kk.out.mono ?_
   rintro e W3 ⟨rfl,r3,hg3⟩
   have hmq:=HM.out.stepR hg3
   clear HM
   have HM:=hid hmq
   clear hmq hg3
   have hHeld3:(fun V=>V.cell? ⟨pw,0,none⟩=some (.pointer (some ⟨sp,0,none⟩))∧V.cell? ⟨pw,1,none⟩=some (.pointer (some ⟨rp,0,none⟩))∧V.cell? ⟨fb,12,none⟩=some (.slice s4 m4 d4)) W3:=⟨(worldCells (HM.out.row HW.out)).1,(worldCells (HM.out.row HW.out)).2.1,rowC (HM.out.row HF.out) Ka.out 12⟩
   refine hK.out _ _ (fun _=>hHeld3) ?_
   clear hK K
   (try simp only [Act.put,sA,sZ,sS])
   refine' tk 14 [15] (y:=?y28_14) (r:=?r28_14)
   case y28_14=>(intro wS hSw;go_simp;(try with_reducible rfl))
   (try simp only [Act.put,sA,sZ,sS])
   refine wpAnyL_one 15 rfl (by kernel_rfl) (fun K hK=>?_)
   go_simp
   refine hK.out _ _ (fun h=>absurd rfl h) ?_
   clear hK K
   (try simp only [Act.put,sA,sZ,sS])
   refine wpAnyL_done (by kernel_rfl) ?_ _
   go_wp2
   go_ret
   exact ⟨by simp,sn,r3,HM.out.sub (fun y hy=>List.mem_cons_of_mem _ hy)⟩
  ·subst hkd
   have hby:∀W,Upd (fun _=>False) w W→BAt W (.slice s3 m3 d3) bb:=fun W hu=>by
    have h:=(HQ.out.keep hu).by'
    simp only at h
    rw [←Kw.out] at h
    exact h
   have Kl:=hid hby
   have Kd:=hid (BAt.oldT (hby w (Upd.refl _ _)))
   clear hby
   have hmd:=HM.out.quiet ((Upd.refl (fun _=>False) wq).drew)
   clear HM
   have HM:=hid hmd
   clear hmd
   have Km:=hid (create_p HM.out.sin nm)
   obtain ⟨C1,hC1⟩:∃C,C=createP s.abs nm:=⟨_,rfl⟩
   have Kf:=hid (show 0≤C1.1∧C1.1≤100 from by rw [hC1];exact createP_in _ _)
   rw [HM.out.spp,←hC1] at Km
   have Kg:=hid hC1
   obtain ⟨C2,hC2⟩:∃C,C=appendP C1.2 nm bb:=⟨_,rfl⟩
   have Kz:=hid (show 0≤C2.1∧C2.1≤100 from by rw [hC2];exact appendP_in _ _ _)
   have Kn:=hid hC2
   clear hC1 hC2
   go_upto_region 30 with fail
   have hHeld:(fun V=>V.cell? ⟨pw,0,none⟩=some (.pointer (some ⟨sp,0,none⟩))∧V.cell? ⟨pw,1,none⟩=some (.pointer (some ⟨rp,0,none⟩))∧V.cell? ⟨fb,10,none⟩=some (.string nm)∧V.cell? ⟨fb,11,none⟩=some (.slice s3 m3 d3)) wq.drew:=⟨(worldCells (HM.out.row HW.out)).1,(worldCells (HM.out.row HW.out)).2.1,rowC (HM.out.row HF.out) Ka.out 10,rowC (HM.out.row HF.out) Ka.out 11⟩
   refine wp_region_l (fun V=>V.cell? ⟨pw,0,none⟩=some (.pointer (some ⟨sp,0,none⟩))∧V.cell? ⟨pw,1,none⟩=some (.pointer (some ⟨rp,0,none⟩))∧V.cell? ⟨fb,10,none⟩=some (.string nm)∧V.cell? ⟨fb,11,none⟩=some (.slice s3 m3 d3)) 7 8 rfl (by kernel_rfl) ?_
   refine' tk 0 [7] (y:=?y30_0) (r:=?r30_0)
   case y30_0=>(intro wS hSw;go_simp;(try with_reducible rfl))
   refine' tk 1 [7] (y:=?y30_1) (r:=?r30_1)
   case y30_1=>(intro wS hSw;go_simp;(try with_reducible rfl))
   refine' tk 2 [7] (y:=?y30_2) (r:=?r30_2)
   case y30_2=>(intro wS hSw;go_simp;(try with_reducible rfl))
   refine' tk 3 [7] (y:=?y30_3) (r:=?r30_3)
   case y30_3=>(intro wS hSw;obtain ⟨g0,g1,gn,gb⟩:=hSw;go_simp;(try with_reducible rfl))
   (try simp only [Act.put,sA,sZ,sS])
   refine' tk 4 [7] (y:=?y30_4) (r:=?r30_4)
   case y30_4=>(intro wS hSw;go_simp;(try with_reducible rfl))
   refine' tk 5 [7] (y:=?y30_5) (r:=?r30_5)
   case y30_5=>(intro wS hSw;obtain ⟨g0,g1,gn,gb⟩:=hSw;go_simp;(try with_reducible rfl))
   (try simp only [Act.put,sA,sZ,sS])
   refine wpAnyL_one 6 rfl (by kernel_rfl) (fun K hK=>?_)
   go_simp
   go_at_call 33
   refine Km.out.mono ?_
   rintro e W2 ⟨rfl,sn,hst2,habs2⟩
   have Kb:=hid habs2
   clear habs2
   have hmq:=HM.out.stepD hst2
   clear HM
   have HM:=hid hmq
   clear hmq hst2
   have hHeld2:(fun V=>V.cell? ⟨pw,0,none⟩=some (.pointer (some ⟨sp,0,none⟩))∧V.cell? ⟨pw,1,none⟩=some (.pointer (some ⟨rp,0,none⟩))∧V.cell? ⟨fb,10,none⟩=some (.string nm)∧V.cell? ⟨fb,11,none⟩=some (.slice s3 m3 d3)) W2:=⟨(worldCells (HM.out.row HW.out)).1,(worldCells (HM.out.row HW.out)).2.1,rowC (HM.out.row HF.out) Ka.out 10,rowC (HM.out.row HF.out) Ka.out 11⟩
   refine hK.out _ _ (fun _=>hHeld2) ?_
   clear hK K
   (try simp only [Act.put,sA,sZ,sS])
   refine wpAnyL_one 7 rfl (by kernel_rfl) (fun K hK=>?_)
   go_simp
   refine hK.out _ _ (fun h=>absurd rfl h) ?_
   clear hK K
   (try simp only [Act.put,sA,sZ,sS])
   refine wpAnyL_done (by kernel_rfl) ?_ _
   clear hHeld hHeld2
   have hmd:=HM.out.quiet ((Upd.refl (fun _=>False) W2).drew)
   clear HM
   have HM:=hid hmd
   clear hmd
   have hap:=append_any HM.out.sin nm (Kl.out _ HM.out.upd).bytes (fun a l c e h=>⟨fun e2=>by have h1:=HM.out.low sn.p (by simp [DS.blocks]);have h2:=Kd.out a l c e h;omega,Nat.lt_of_lt_of_le (Kd.out a l c e h) HM.out.upd.size⟩)
   rw [HM.out.spp,appendA_p,Kb.out,←Kn.out] at hap
   have Za:=hid hap
   clear hap
   go_upto_region 31 with fail
   have hHeld:(fun V=>V.cell? ⟨pw,0,none⟩=some (.pointer (some ⟨sp,0,none⟩))∧V.cell? ⟨pw,1,none⟩=some (.pointer (some ⟨rp,0,none⟩))∧V.cell? ⟨fb,10,none⟩=some (.string nm)∧V.cell? ⟨fb,11,none⟩=some (.slice s3 m3 d3)) W2.drew:=⟨(worldCells (HM.out.row HW.out)).1,(worldCells (HM.out.row HW.out)).2.1,rowC (HM.out.row HF.out) Ka.out 10,rowC (HM.out.row HF.out) Ka.out 11⟩
   refine wp_region_l (fun V=>V.cell? ⟨pw,0,none⟩=some (.pointer (some ⟨sp,0,none⟩))∧V.cell? ⟨pw,1,none⟩=some (.pointer (some ⟨rp,0,none⟩))∧V.cell? ⟨fb,10,none⟩=some (.string nm)∧V.cell? ⟨fb,11,none⟩=some (.slice s3 m3 d3)) 9 10 rfl (by kernel_rfl) ?_
   refine' tk 0 [9] (y:=?y31_0) (r:=?r31_0)
   case y31_0=>(intro wS hSw;go_simp;(try with_reducible rfl))
   refine' tk 1 [9] (y:=?y31_1) (r:=?r31_1)
   case y31_1=>(intro wS hSw;go_simp;(try with_reducible rfl))
   refine' tk 2 [9] (y:=?y31_2) (r:=?r31_2)
   case y31_2=>(intro wS hSw;go_simp;(try with_reducible rfl))
   refine' tk 3 [9] (y:=?y31_3) (r:=?r31_3)
   case y31_3=>(intro wS hSw;obtain ⟨g0,g1,gn,gb⟩:=hSw;go_simp;(try with_reducible rfl))
   refine' tk 4 [9] (y:=?y31_4) (r:=?r31_4)
   case y31_4=>(intro wS hSw;go_simp;(try with_reducible rfl))
   refine' tk 5 [9] (y:=?y31_5) (r:=?r31_5)
   case y31_5=>(intro wS hSw;obtain ⟨g0,g1,gn,gb⟩:=hSw;go_simp;(try with_reducible rfl))
   (try simp only [Act.put,sA,sZ,sS])
   refine' tk 6 [9] (y:=?y31_6) (r:=?r31_6)
   case y31_6=>(intro wS hSw;go_simp;(try with_reducible rfl))
   refine' tk 7 [9] (y:=?y31_7) (r:=?r31_7)
   case y31_7=>(intro wS hSw;obtain ⟨g0,g1,gn,gb⟩:=hSw;go_simp;(try with_reducible rfl))
   (try simp only [Act.put,sA,sZ,sS])
   refine wpAnyL_one 8 rfl (by kernel_rfl) (fun K hK=>?_)
   go_simp
   go_at_call 35
   refine Za.out.mono ?_
   rintro e W3 ⟨rfl,sm,hst3,habs3⟩
   have Ko:=hid habs3
   clear habs3
   have hmq:=HM.out.stepD hst3
   clear HM
   have HM:=hid hmq
   clear hmq hst3
   have hHeld3:(fun V=>V.cell? ⟨pw,0,none⟩=some (.pointer (some ⟨sp,0,none⟩))∧V.cell? ⟨pw,1,none⟩=some (.pointer (some ⟨rp,0,none⟩))∧V.cell? ⟨fb,10,none⟩=some (.string nm)∧V.cell? ⟨fb,11,none⟩=some (.slice s3 m3 d3)) W3:=⟨(worldCells (HM.out.row HW.out)).1,(worldCells (HM.out.row HW.out)).2.1,rowC (HM.out.row HF.out) Ka.out 10,rowC (HM.out.row HF.out) Ka.out 11⟩
   refine hK.out _ _ (fun _=>hHeld3) ?_
   clear hK K
   (try simp only [Act.put,sA,sZ,sS])
   refine wpAnyL_one 9 rfl (by kernel_rfl) (fun K hK=>?_)
   go_simp
   refine hK.out _ _ (fun h=>absurd rfl h) ?_
   clear hK K
   (try simp only [Act.put,sA,sZ,sS])
   refine wpAnyL_done (by kernel_rfl) ?_ _
   clear hHeld hHeld3
   have hmd:=HM.out.quiet ((Upd.refl (fun _=>False) W3).drew)
   clear HM
   have HM:=hid hmd
   clear hmd
   have Kp:=hid (HM.out.ra.create nm)
   rw [HM.out.rpp,←Kg.out] at Kp
   go_upto_region 32 with fail
   have hHeld:(fun V=>V.cell? ⟨pw,0,none⟩=some (.pointer (some ⟨sp,0,none⟩))∧V.cell? ⟨pw,1,none⟩=some (.pointer (some ⟨rp,0,none⟩))∧V.cell? ⟨fb,10,none⟩=some (.string nm)∧V.cell? ⟨fb,11,none⟩=some (.slice s3 m3 d3)) W3.drew:=⟨(worldCells (HM.out.row HW.out)).1,(worldCells (HM.out.row HW.out)).2.1,rowC (HM.out.row HF.out) Ka.out 10,rowC (HM.out.row HF.out) Ka.out 11⟩
   refine wp_region_l (fun V=>V.cell? ⟨pw,0,none⟩=some (.pointer (some ⟨sp,0,none⟩))∧V.cell? ⟨pw,1,none⟩=some (.pointer (some ⟨rp,0,none⟩))∧V.cell? ⟨fb,10,none⟩=some (.string nm)∧V.cell? ⟨fb,11,none⟩=some (.slice s3 m3 d3)) 24 25 rfl (by kernel_rfl) ?_
   refine' tk 0 [24] (y:=?y32_0) (r:=?r32_0)
   case y32_0=>(intro wS hSw;go_simp;(try with_reducible rfl))
   (try simp only [Act.put,sA,sZ,sS])
   refine' tk 2 [24] (y:=?y32_2) (r:=?r32_2)
   case y32_2=>(intro wS hSw;go_simp;(try with_reducible rfl))
   (try simp only [Act.put,sA,sZ,sS])
   refine' tk 3 [24] (y:=?y32_3) (r:=?r32_3)
   case y32_3=>(intro wS hSw;go_simp;(try with_reducible rfl))
   (try simp only [Act.put,sA,sZ,sS])
   refine' tk 4 [24] (y:=?y32_4) (r:=?r32_4)
   case y32_4=>(intro wS hSw;go_simp;(try with_reducible rfl))
   (try simp only [Act.put,sA,sZ,sS])
   refine' tk 5 [24] (y:=?y32_5) (r:=?r32_5)
   case y32_5=>(intro wS hSw;obtain ⟨g0,g1,gn,gb⟩:=hSw;go_simp;(try with_reducible rfl))
   (try simp only [Act.put,sA,sZ,sS])
   refine' tk 6 [24] (y:=?y32_6) (r:=?r32_6)
   case y32_6=>(intro wS hSw;go_simp;(try with_reducible rfl))
   (try simp only [Act.put,sA,sZ,sS])
   refine' tk 7 [24] (y:=?y32_7) (r:=?r32_7)
   case y32_7=>(intro wS hSw;obtain ⟨g0,g1,gn,gb⟩:=hSw;go_simp;(try with_reducible rfl))
   (try simp only [Act.put,sA,sZ,sS])
   refine wpAnyL_one 1 rfl (by kernel_rfl) (fun K hK=>?_)
   go_simp
   go_at_call 13
   refine (lawNum_any _ _ (by have:=Kf.out;omega)).mono ?_
   rintro e W ⟨rfl,hww⟩
   obtain rfl:=hww.symm
   refine hK.out _ _ (fun _=>hHeld) ?_
   clear hK K
   (try simp only [Act.put,sA,sZ,sS])
   refine wpAnyL_one 8 rfl (by kernel_rfl) (fun K hK=>?_)
   go_simp
   go_at_call 118
   refine Kp.out.mono ?_
   rintro e W4 ⟨rfl,r4,hg4⟩
   have hmq:=HM.out.stepR hg4
   clear HM
   have HM:=hid hmq
   clear hmq hg4
   have Kq:=hid (HM.out.ra.append' nm (Kl.out _ HM.out.upd) (fun a l c e h=>⟨fun e2=>by have h1:=HM.out.lowr _ e2;have h2:=Kd.out a l c e h;omega,Nat.lt_of_lt_of_le (Kd.out a l c e h) HM.out.upd.size⟩))
   rw [HM.out.rpp,←Kn.out] at Kq
   have hHeld4:(fun V=>V.cell? ⟨pw,0,none⟩=some (.pointer (some ⟨sp,0,none⟩))∧V.cell? ⟨pw,1,none⟩=some (.pointer (some ⟨rp,0,none⟩))∧V.cell? ⟨fb,10,none⟩=some (.string nm)∧V.cell? ⟨fb,11,none⟩=some (.slice s3 m3 d3)) W4:=⟨(worldCells (HM.out.row HW.out)).1,(worldCells (HM.out.row HW.out)).2.1,rowC (HM.out.row HF.out) Ka.out 10,rowC (HM.out.row HF.out) Ka.out 11⟩
   refine hK.out _ _ (fun _=>hHeld4) ?_
   clear hK K
   (try simp only [Act.put,sA,sZ,sS])
   refine' tk 9 [24] (y:=?y32_9) (r:=?r32_9)
   case y32_9=>(intro wS hSw;go_simp;(try with_reducible rfl))
   (try simp only [Act.put,sA,sZ,sS])
   refine' tk 10 [24] (y:=?y32_10) (r:=?r32_10)
   case y32_10=>(intro wS hSw;go_simp;(try with_reducible rfl))
   (try simp only [Act.put,sA,sZ,sS])
   refine' tk 11 [24] (y:=?y32_11) (r:=?r32_11)
   case y32_11=>(intro wS hSw;go_simp;(try with_reducible rfl))
   (try simp only [Act.put,sA,sZ,sS])
   refine' tk 13 [24] (y:=?y32_13) (r:=?r32_13)
   case y32_13=>(intro wS hSw;go_simp;(try with_reducible rfl))
   (try simp only [Act.put,sA,sZ,sS])
   refine' tk 14 [24] (y:=?y32_14) (r:=?r32_14)
   case y32_14=>(intro wS hSw;go_simp;(try with_reducible rfl))
   (try simp only [Act.put,sA,sZ,sS])
   refine' tk 15 [24] (y:=?y32_15) (r:=?r32_15)
   case y32_15=>(intro wS hSw;go_simp;(try with_reducible rfl))
   (try simp only [Act.put,sA,sZ,sS])
   refine' tk 16 [24] (y:=?y32_16) (r:=?r32_16)
   case y32_16=>(intro wS hSw;obtain ⟨g0,g1,gn,gb⟩:=hSw;go_simp;(try with_reducible rfl))
   (try simp only [Act.put,sA,sZ,sS])
   refine' tk 17 [24] (y:=?y32_17) (r:=?r32_17)
   case y32_17=>(intro wS hSw;go_simp;(try with_reducible rfl))
   (try simp only [Act.put,sA,sZ,sS])
   refine' tk 18 [24] (y:=?y32_18) (r:=?r32_18)
   case y32_18=>(intro wS hSw;obtain ⟨g0,g1,gn,gb⟩:=hSw;go_simp;(try with_reducible rfl))
   (try simp only [Act.put,sA,sZ,sS])
   refine' tk 19 [24] (y:=?y32_19) (r:=?r32_19)
   case y32_19=>(intro wS hSw;go_simp;(try with_reducible rfl))
   (try simp only [Act.put,sA,sZ,sS])
   refine' tk 20 [24] (y:=?y32_20) (r:=?r32_20)
   case y32_20=>(intro wS hSw;obtain ⟨g0,g1,gn,gb⟩:=hSw;go_simp;(try with_reducible rfl))
   (try simp only [Act.put,sA,sZ,sS])
   refine wpAnyL_one 12 rfl (by kernel_rfl) (fun K hK=>?_)
   go_simp
   go_at_call 13
   refine (lawNum_any _ _ (by have:=Kz.out;omega)).mono ?_
   rintro e W ⟨rfl,hww⟩
   obtain rfl:=hww.symm
   refine hK.out _ _ (fun _=>hHeld4) ?_
   clear hK K
   (try simp only [Act.put,sA,sZ,sS])
   refine wpAnyL_one 21 rfl (by kernel_rfl) (fun K hK=>?_)
   go_simp
   go_at_call 119
   refine Kq.out.mono ?_
   rintro e W5 ⟨rfl,r5,hg5⟩
   have hmq:=HM.out.stepR hg5
   clear HM
   have HM:=hid hmq
   clear hmq hg5
   have hHeld5:(fun V=>V.cell? ⟨pw,0,none⟩=some (.pointer (some ⟨sp,0,none⟩))∧V.cell? ⟨pw,1,none⟩=some (.pointer (some ⟨rp,0,none⟩))∧V.cell? ⟨fb,10,none⟩=some (.string nm)∧V.cell? ⟨fb,11,none⟩=some (.slice s3 m3 d3)) W5:=⟨(worldCells (HM.out.row HW.out)).1,(worldCells (HM.out.row HW.out)).2.1,rowC (HM.out.row HF.out) Ka.out 10,rowC (HM.out.row HF.out) Ka.out 11⟩
   refine hK.out _ _ (fun _=>hHeld5) ?_
   clear hK K
   (try simp only [Act.put,sA,sZ,sS])
   refine' tk 22 [24] (y:=?y32_22) (r:=?r32_22)
   case y32_22=>(intro wS hSw;go_simp;(try with_reducible rfl))
   (try simp only [Act.put,sA,sZ,sS])
   refine' tk 23 [24] (y:=?y32_23) (r:=?r32_23)
   case y32_23=>(intro wS hSw;go_simp;(try with_reducible rfl))
   (try simp only [Act.put,sA,sZ,sS])
   refine wpAnyL_one 24 rfl (by kernel_rfl) (fun K hK=>?_)
   go_simp
   refine hK.out _ _ (fun h=>absurd rfl h) ?_
   clear hK K
   (try simp only [Act.put,sA,sZ,sS])
   refine wpAnyL_done (by kernel_rfl) ?_ _
   go_wp2
   go_ret
   refine ⟨by simp,sm,r5,?_⟩
   have h:=HM.out.sub (R':=[(pw,worldO sp rp (.slice (some ⟨g,0,none⟩) NP pc))]) (fun y hy=>List.mem_cons_of_mem _ hy)
   rw [←Ko.out] at h
   exact h
  ·subst hkd
   have hon:on≤9223372036854775807:=Kv.out.2.1.2
   have hp8:¬(9223372036854775807<pre.size+8):=by omega
   have hmd:=HM.out.quiet ((Upd.refl (fun _=>False) wq).drew)
   clear HM
   have HM:=hid hmd
   clear hmd
   have Kr:=hid (flip_any HM.out.sin (pre++nameB) on hon)
   obtain ⟨C1,hC1⟩:∃C,C=cFlip s.abs (pre++nameB) on:=⟨_,rfl⟩
   have Kf:=hid (show 0≤C1.1∧C1.1≤100 from by
    rw [hC1]
    unfold cFlip
    repeat' split
    all_goals simp)
   rw [HM.out.spp,←hC1] at Kr
   have Kg:=hid hC1
   have Zb:=hid hon
   clear hC1
   go_upto_region 34 with fail
   have hHeld:(fun V=>V.cell? ⟨pw,0,none⟩=some (.pointer (some ⟨sp,0,none⟩))∧V.cell? ⟨pw,1,none⟩=some (.pointer (some ⟨rp,0,none⟩))∧V.cell? ⟨fb,9,none⟩=some (.int .i64 on)) wq.drew:=⟨(worldCells (HM.out.row HW.out)).1,(worldCells (HM.out.row HW.out)).2.1,rowC (HM.out.row HF.out) Ka.out 9⟩
   refine wp_region_l (fun V=>V.cell? ⟨pw,0,none⟩=some (.pointer (some ⟨sp,0,none⟩))∧V.cell? ⟨pw,1,none⟩=some (.pointer (some ⟨rp,0,none⟩))∧V.cell? ⟨fb,9,none⟩=some (.int .i64 on)) 20 21 rfl (by kernel_rfl) ?_
   refine' tk 0 [20] (y:=?y34_0) (r:=?r34_0)
   case y34_0=>(intro wS hSw;go_simp;(try with_reducible rfl))
   (try simp only [Act.put,sA,sZ,sS])
   refine' tk 1 [20] (y:=?y34_1) (r:=?r34_1)
   case y34_1=>(intro wS hSw;go_simp;(try with_reducible rfl))
   (try simp only [Act.put,sA,sZ,sS])
   refine' tk 2 [20] (y:=?y34_2) (r:=?r34_2)
   case y34_2=>(intro wS hSw;go_simp;(try with_reducible rfl))
   (try simp only [Act.put,sA,sZ,sS])
   refine' tk 3 [20] (y:=?y34_3) (r:=?r34_3)
   case y34_3=>(intro wS hSw;obtain ⟨g0,g1,g9⟩:=hSw;go_simp;(try with_reducible rfl))
   (try simp only [Act.put,sA,sZ,sS])
   refine' tk 4 [20] (y:=?y34_4) (r:=?r34_4)
   case y34_4=>(intro wS hSw;go_simp;(try with_reducible rfl))
   (try simp only [Act.put,sA,sZ,sS])
   refine' tk 5 [20] (y:=?y34_5) (r:=?r34_5)
   case y34_5=>(intro wS hSw;go_simp;(try with_reducible rfl))
   (try simp only [Act.put,sA,sZ,sS])
   refine' tk 6 [20] (y:=?y34_6) (r:=?r34_6)
   case y34_6=>(intro wS hSw;go_simp;(try with_reducible rfl))
   (try simp only [Act.put,sA,sZ,sS])
   refine' tk 7 [20] (y:=?y34_7) (r:=?r34_7)
   case y34_7=>(intro wS hSw;obtain ⟨g0,g1,g9⟩:=hSw;go_simp;(try with_reducible rfl))
   (try simp only [Act.put,sA,sZ,sS])
   refine' tk 10 [20] (y:=?y34_10) (r:=?r34_10)
   case y34_10=>(intro wS hSw;go_simp;(try with_reducible rfl))
   (try simp only [Act.put,sA,sZ,sS])
   refine' tk 11 [20] (y:=?y34_11) (r:=?r34_11)
   case y34_11=>(intro wS hSw;go_simp;(try with_reducible rfl))
   (try simp only [Act.put,sA,sZ,sS])
   refine' tk 12 [20] (y:=?y34_12) (r:=?r34_12)
   case y34_12=>(intro wS hSw;go_simp;(try with_reducible rfl))
   (try simp only [Act.put,sA,sZ,sS])
   refine' tk 13 [20] (y:=?y34_13) (r:=?r34_13)
   case y34_13=>(intro wS hSw;obtain ⟨g0,g1,g9⟩:=hSw;go_simp;(try with_reducible rfl))
   (try simp only [Act.put,sA,sZ,sS])
   refine' tk 14 [20] (y:=?y34_14) (r:=?r34_14)
   case y34_14=>(intro wS hSw;go_simp;(try with_reducible rfl))
   (try simp only [Act.put,sA,sZ,sS])
   refine' tk 15 [20] (y:=?y34_15) (r:=?r34_15)
   case y34_15=>(intro wS hSw;go_simp;(try with_reducible rfl))
   (try simp only [Act.put,sA,sZ,sS])
   refine' tk 16 [20] (y:=?y34_16) (r:=?r34_16)
   case y34_16=>(intro wS hSw;go_simp;(try with_reducible rfl))
   (try simp only [Act.put,sA,sZ,sS])
   refine' tk 17 [20] (y:=?y34_17) (r:=?r34_17)
   case y34_17=>(intro wS hSw;obtain ⟨g0,g1,g9⟩:=hSw;go_simp;(try with_reducible rfl))
   (try simp only [Act.put,sA,sZ,sS])
   refine wpAnyL_one 8 rfl (by kernel_rfl) (fun K hK=>?_)
   go_simp
   go_at_call 120
   refine Kr.out.mono ?_
   rintro e W2 ⟨rfl,sn,hst2,habs2⟩
   have Kb:=hid habs2
   clear habs2
   have hmq:=HM.out.stepD hst2
   clear HM
   have HM:=hid hmq
   clear hmq hst2
   have Ks:=hid (HM.out.ra.flip (pre++nameB) on Zb.out)
   rw [HM.out.rpp,←Kg.out] at Ks
   have hHeld2:(fun V=>V.cell? ⟨pw,0,none⟩=some (.pointer (some ⟨sp,0,none⟩))∧V.cell? ⟨pw,1,none⟩=some (.pointer (some ⟨rp,0,none⟩))∧V.cell? ⟨fb,9,none⟩=some (.int .i64 on)) W2:=⟨(worldCells (HM.out.row HW.out)).1,(worldCells (HM.out.row HW.out)).2.1,rowC (HM.out.row HF.out) Ka.out 9⟩
   refine hK.out _ _ (fun _=>hHeld2) ?_
   clear hK K
   (try simp only [Act.put,sA,sZ,sS])
   refine wpAnyL_one 9 rfl (by kernel_rfl) (fun K hK=>?_)
   go_simp
   go_at_call 13
   refine (lawNum_any _ _ (by have:=Kf.out;omega)).mono ?_
   rintro e W ⟨rfl,hww⟩
   obtain rfl:=hww.symm
   refine hK.out _ _ (fun _=>hHeld2) ?_
   clear hK K
   (try simp only [Act.put,sA,sZ,sS])
   refine wpAnyL_one 18 rfl (by kernel_rfl) (fun K hK=>?_)
   go_simp
   go_at_call 121
   refine Ks.out.mono ?_
   rintro e W3 ⟨rfl,r3,hg3⟩
   have hmq:=HM.out.stepR hg3
   clear HM
   have HM:=hid hmq
   clear hmq hg3
   have hHeld3:(fun V=>V.cell? ⟨pw,0,none⟩=some (.pointer (some ⟨sp,0,none⟩))∧V.cell? ⟨pw,1,none⟩=some (.pointer (some ⟨rp,0,none⟩))∧V.cell? ⟨fb,9,none⟩=some (.int .i64 on)) W3:=⟨(worldCells (HM.out.row HW.out)).1,(worldCells (HM.out.row HW.out)).2.1,rowC (HM.out.row HF.out) Ka.out 9⟩
   refine hK.out _ _ (fun _=>hHeld3) ?_
   clear hK K
   (try simp only [Act.put,sA,sZ,sS])
   refine' tk 19 [20] (y:=?y34_19) (r:=?r34_19)
   case y34_19=>(intro wS hSw;go_simp;(try with_reducible rfl))
   (try simp only [Act.put,sA,sZ,sS])
   refine wpAnyL_one 20 rfl (by kernel_rfl) (fun K hK=>?_)
   go_simp
   refine hK.out _ _ (fun h=>absurd rfl h) ?_
   clear hK K
   (try simp only [Act.put,sA,sZ,sS])
   refine wpAnyL_done (by kernel_rfl) ?_ _
   go_wp2
   go_ret
   refine ⟨by simp,sn,r3,?_⟩
   have h:=HM.out.sub (R':=[(pw,worldO sp rp (.slice (some ⟨g,0,none⟩) NP pc))]) (fun y hy=>List.mem_cons_of_mem _ hy)
   rw [←Kb.out] at h
   exact h
end Go.Proofs.YtgaidmohdhaonaaGreatDoor
