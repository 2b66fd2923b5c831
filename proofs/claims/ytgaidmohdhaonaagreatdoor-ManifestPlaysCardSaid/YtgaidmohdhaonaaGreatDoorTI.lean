/-
  (*World).plays of ManifestPlays, walked: Swap of the generation that follows, Sweep.
-/
import Derived.Test.YtgaidmohdhaonaaGreatDoorTF
import Derived.Test.YtgaidmohdhaonaaGreatDoorTD
import Derived.Test.YtgaidmohdhaonaaGreatDoorTC
import Derived.Test.YtgaidmohdhaonaaGreatDoorSG
set_option linter.unusedVariables false
set_option linter.unusedSimpArgs false
set_option linter.unnecessarySimpa false
set_option linter.unusedSectionVars false
set_option maxRecDepth 100000
set_option maxHeartbeats 12800000
namespace Go.Proofs.YtgaidmohdhaonaaGreatDoor
open Go Go.RowKit
theorem sweepR_in (g:ByteArray→Bool):∀(L gone:List ByteArray) (a:DiskA),0≤(sweepR g L gone a).1.2∧(sweepR g L gone a).1.2≤200
 | [],gone,a=>by simp [sweepR]
 | f :: L,gone,a=>by
  rw [sweepR_cons]
  split
  ·exact sweepR_in g L _ _
  ·split
   ·have:=deleteP_in a f;exact ⟨this.1,Int.le_trans this.2 (by decide)⟩
   ·exact sweepR_in g L _ _
theorem sweepP_in (a:DiskA) (pre:ByteArray) (x:VerA):0≤(sweepP a pre x).1.2∧(sweepP a pre x).1.2≤200:=by
 unfold sweepP
 split
 ·have:=askedP_in a pre;exact ⟨this.1,Int.le_trans this.2 (by decide)⟩
 ·split
  ·have:=checkA_in x;exact ⟨this.1,Int.le_trans this.2 (by decide)⟩
  ·exact sweepR_in _ _ _ _
theorem plays_c {w W0:World} {sp rp pw:Nat} {pv:Value} {P:List ByteArray} {s:DS} {r:RS} {o:OpT} {q:OpQ} (hT:TabIn w) (hT2:TabP w) (hm:MP w W0 sp rp pv P s r s.abs [(pw,worldO sp rp pv)]) (hPl:1≤P.length∧P.length≤3) (hPs:∀p∈P,p.size≤140737488355328) (hq:OpAt w o q) (hin:OpIn o) (hkd:o.kind=8∨o.kind=3) :
  Calls Tryz.prog 51 #[.pointer (some ⟨pw,0,none⟩),.agg #[.int .i64 o.kind,.int .i64 o.obj,.int .i64 o.v.gen,.int .i64 o.v.flushed,.int .i64 o.v.next,.int .i64 o.v.low,.int .i64 o.v.clock,.slice q.s1 o.v.state.length q.d1,.slice q.s2 o.v.runs.length q.d2,.int .i64 o.n,.string o.name,.slice q.s3 o.b.length q.d3,.slice q.s4 o.cuts.length q.d4]] W0 fun e W'=>e=.returned (.bool true)∧∃s2 r2,MP w W' sp rp pv P s2 r2 s2.abs [(pw,worldO sp rp pv)]:=by
 have HT:=hid hT;have Zi:=hid hT2;have Zt:=hid hPl;have Zu:=hid hPs;have HQ:=hid hq;have Kw:=hid hin
 obtain ⟨s1,d1,s2,d2,s3,d3,s4,d4⟩:=q
 obtain ⟨kd,ob,x,on,nm,bb,cuts⟩:=o
 simp only at *
 obtain ⟨m1,hm1⟩:∃m,m=x.state.length:=⟨_,rfl⟩
 obtain ⟨m2,hm2⟩:∃m,m=x.runs.length:=⟨_,rfl⟩
 obtain ⟨m3,hm3⟩:∃m,m=bb.length:=⟨_,rfl⟩
 obtain ⟨m4,hm4⟩:∃m,m=cuts.length:=⟨_,rfl⟩
 rw [←hm1,←hm2,←hm3,←hm4]
 have Km:=hid hm1;have Kn:=hid hm2;have Ji:=hid hm3;have Jj:=hid hm4
 obtain ⟨pa,pc,rfl,hpl1,hpl2⟩:=hm.ps.shape
 obtain ⟨NP,hNP⟩:∃n,n=P.length:=⟨_,rfl⟩
 have Zv:=hid hNP
 rw [←hNP] at hpl1 hm⊢
 have hnp:1≤NP∧NP≤3:=by rw [hNP];exact Zt.out
 have HM:=hid hm
 have hobj : -9223372036854775808≤ob∧ob≤9223372036854775807:=hin.1
 clear hT hT2 hPl hPs hq hin hm1 hm2 hm3 hm4 hm hNP
 go_enter Tryz.func51,Tryz.ntmps51
 go_upto_region 1 with fail
 obtain ⟨FB,hFB⟩:∃O,O=Obj.cells #[.int .i64 kd,.int .i64 ob,.int .i64 x.gen,.int .i64 x.flushed,.int .i64 x.next,.int .i64 x.low,.int .i64 x.clock,.slice s1 m1 d1,.slice s2 m2 d2,.int .i64 on,.string nm,.slice s3 m3 d3,.slice s4 m4 d4] 109 (0,0):=⟨_,rfl⟩
 obtain ⟨W1,hW1⟩:∃W,W=W0.alloc FB:=⟨_,rfl⟩
 obtain ⟨fb,hfb⟩:∃p,p=W0.heap.size:=⟨_,rfl⟩
 have hmb:=HM.out.push FB
 rw [←hW1,←hfb] at hmb
 rw [hFB] at hW1
 rw [←hW1,←hfb]
 have Kc:=hid hFB
 clear HM hFB hW1
 have Zj:=hid hmb
 have HW:=hid (show (pw,worldO sp rp (.slice pa NP pc))∈[(fb,FB),(pw,worldO sp rp (.slice pa NP pc))] from by simp)
 have HF:=hid (show (fb,FB)∈[(fb,FB),(pw,worldO sp rp (.slice pa NP pc))] from by simp)
 obtain ⟨c0,c1,c2⟩:=worldCells (hmb.row HW.out)
 have f1:W1.cell? ⟨fb,1,none⟩=some (.int .i64 ob):=rowC (hmb.row HF.out) Kc.out 1
 have f0:W1.cell? ⟨fb,0,none⟩=some (.int .i64 kd):=rowC (hmb.row HF.out) Kc.out 0
 clear hfb hmb
 go_wp2_with fail
 go_quiet (fail)
 revert nq
 intro nq
 have hmd:=Zj.out.quiet ((Upd.refl (fun _=>False) W1).drewN nq)
 generalize W1.drewN nq=wq at hmd⊢
 have HM:=hid hmd
 clear c0 c1 c2 f0 f1
 obtain ⟨c0,c1,c2⟩:=worldCells (hmd.row HW.out)
 have f0:wq.cell? ⟨fb,0,none⟩=some (.int .i64 kd):=rowC (hmd.row HF.out) Kc.out 0
 have hb1 : -(NP:Int)<ob.tmod NP:=Int.lt_tmod_of_pos ob (by omega)
 have hb2:ob.tmod NP<(NP:Int):=Int.tmod_lt_of_pos ob (by omega)
 generalize ob.tmod (NP:Int)=t at hb1 hb2⊢
 clear hmd Zj hobj
 go_upto_if 38 with fail
 go_cut [5] (fun kv wx=>∃k:Nat,k<NP∧kv=.int .i64 k∧wx=wq)
 case first=>
  by_cases ht:t<0
  ·go_wp2
   go_meet
   exact ⟨(t+NP).toNat,by omega,by rw [Int.toNat_of_nonneg (by omega)],rfl⟩
  ·go_wp2
   go_meet
   exact ⟨t.toNat,by omega,by rw [Int.toNat_of_nonneg (by omega)],rfl⟩
 case rest=>
  obtain ⟨k,hk,rfl,hww⟩:=hcut
  obtain rfl:=hww.symm
  clear hww hb1 hb2
  have hkp:k<P.length:=by have:=Zv.out;omega
  obtain ⟨g,c,eg,hgl,hcell⟩:=HM.out.ps.at hkp
  injection eg with eg1 eg2 eg3
  subst eg1;subst eg3
  clear eg2
  obtain ⟨pre,hpre⟩:∃p,p=P[k]:=⟨_,rfl⟩
  have hps:pre.size≤140737488355328:=by rw [hpre];exact Zu.out _ (List.getElem_mem hkp)
  rw [←hpre] at hcell
  clear hpre hkp
  rcases hkd with hkd|hkd
  ·subst hkd
   have hv:=HQ.out.ver
   simp only at hv
   rw [←Km.out,←Kn.out] at hv
   have Zb:=hid hv
   clear hv
   have Zc:=hid (refLoad10_any HM.out.ra pre hps)
   rw [HM.out.rpp] at Zc
   go_wp2_with fail
   refine Zc.out.mono ?_
   rintro e W2 ⟨hres,r2,hg2⟩
   obtain ⟨g0,y2,y3,y4,y5,a1,n1,c1',a2,n2,c2',isb,rfl,-,hg0,hg1⟩:=hres.shape
   have hg2:=hg2.like (loadP_n _ _)
   have hmq:=HM.out.stepR hg2
   clear HM
   have HM:=hid hmq
   clear hmq hg2
   clear hres Zc
   go_upto_region 37 with fail
   obtain ⟨P25,hB⟩:∃O,O=Obj.cells #[.int .i64 g0,.int .i64 y2,.int .i64 y3,.int .i64 y4,.int .i64 y5,.slice a1 n1 c1',.slice a2 n2 c2'] 25 (0,0):=⟨_,rfl⟩
   obtain ⟨W3,hW⟩:∃W,W=W2.alloc P25:=⟨_,rfl⟩
   obtain ⟨p25,hp⟩:∃p,p=W2.heap.size:=⟨_,rfl⟩
   have hmb:=HM.out.push P25
   have hub:=(Upd.refl (fun _=>False) W2).alloc P25
   rw [←hW,←hp] at hmb
   rw [←hW] at hub
   rw [hB] at hW
   rw [←hW,←hp]
   have Zw:=hid hp;have Zd:=hid hB
   clear HM hp hB hW
   have HM:=hid hmb;have HU:=hid hub
   clear hmb hub
   have hf:=List.mem_cons_of_mem (p25,P25) HF.out
   have hw:=List.mem_cons_of_mem (p25,P25) HW.out
   clear HF HW
   have HF:=hid hf;have HW:=hid hw
   clear hf hw
   have g2:W3.cell? ⟨fb,2,none⟩=some (.int .i64 x.gen):=rowC (HM.out.row HF.out) Kc.out 2
   have g3:W3.cell? ⟨fb,3,none⟩=some (.int .i64 x.flushed):=rowC (HM.out.row HF.out) Kc.out 3
   have g4:W3.cell? ⟨fb,4,none⟩=some (.int .i64 x.next):=rowC (HM.out.row HF.out) Kc.out 4
   have g5:W3.cell? ⟨fb,5,none⟩=some (.int .i64 x.low):=rowC (HM.out.row HF.out) Kc.out 5
   have g6:W3.cell? ⟨fb,6,none⟩=some (.int .i64 x.clock):=rowC (HM.out.row HF.out) Kc.out 6
   have g7:W3.cell? ⟨fb,7,none⟩=some (.slice s1 m1 d1):=rowC (HM.out.row HF.out) Kc.out 7
   have g8:W3.cell? ⟨fb,8,none⟩=some (.slice s2 m2 d2):=rowC (HM.out.row HF.out) Kc.out 8
   have Ko:=hid (copied_any (Zb.out.keep HM.out.upd) Kw.out.2.2.2.2)
   go_wp2_with fail
   refine Ko.out.mono ?_
   rintro e W4 ⟨v2,rfl,hown,hu4⟩
   have Kl:=hid hown.at
   obtain ⟨t1,e1,t2,e2,rfl,-,-⟩:=hown.at
   rw [←Km.out,←Kn.out] at Kl⊢
   have hmq:=HM.out.quiet hu4
   clear HM
   have HM:=hid hmq
   clear hown hu4 Ko hmq HU
   clear g2 g3 g4 g5 g6 g7 g8
   have Zx:=hid (show ∀y∈[(p25,P25),(fb,FB),(pw,worldO sp rp (.slice (some ⟨g,0,none⟩) NP pc))],y.1<W4.heap.size from fun y hy=>lt_of_heap (HM.out.box y hy).1)
   go_upto_region 38 with fail
   obtain ⟨P28,hB⟩:∃O,O=Obj.cells #[.int .i64 x.gen,.int .i64 x.flushed,.int .i64 x.next,.int .i64 x.low,.int .i64 x.clock,.slice t1 m1 e1,.slice t2 m2 e2] 25 (0,0):=⟨_,rfl⟩
   obtain ⟨W5,hW⟩:∃W,W=W4.alloc P28:=⟨_,rfl⟩
   obtain ⟨p28,hp⟩:∃p,p=W4.heap.size:=⟨_,rfl⟩
   have hmb:=HM.out.push P28
   have hub:=(Upd.refl (fun _=>False) W4).alloc P28
   rw [←hW,←hp] at hmb
   rw [←hW] at hub
   rw [hB] at hW
   rw [←hW,←hp]
   have Kp:=hid hp;have Kq:=hid hB
   clear HM hp hB hW
   have HM:=hid hmb;have HU:=hid hub
   clear hmb hub
   have Ki:=hid (show (p28,P28)∈[(p28,P28),(p25,P25),(fb,FB),(pw,worldO sp rp (.slice (some ⟨g,0,none⟩) NP pc))] from by simp)
   have Ky:=hid (show (p25,P25)∈[(p28,P28),(p25,P25),(fb,FB),(pw,worldO sp rp (.slice (some ⟨g,0,none⟩) NP pc))] from by simp)
   obtain ⟨⟨z0,z1,z2,z3,z4,z5,z6⟩,-,hzl⟩:=verCells ((HM.out.row Ky.out).trans (congrArg some Zd.out))
   obtain ⟨⟨y0',y1',y2',y3',y4',y5',y6'⟩,⟨u0,-,-,-,-,-,-⟩,hyl⟩:=verCells ((HM.out.row Ki.out).trans (congrArg some Kq.out))
   clear z1 z2 z3 z4 z5 z6 y1' y2' y3' y4' y5' y6'
   go_upto_region 39 with fail
   have hset:=heap_setCell_at W5 p28 0 _ _ (.int .i64 (g0+1)) ((HM.out.row Ki.out).trans (congrArg some Kq.out))
   have hset2:(W5.setCell ⟨p28,0,none⟩ (.int .i64 (g0+1))).heap[p28]? = some (Obj.cells #[.int .i64 (g0+1),.int .i64 x.flushed,.int .i64 x.next,.int .i64 x.low,.int .i64 x.clock,.slice t1 m1 e1,.slice t2 m2 e2] 25 (0,0)):=hset
   have hmn:=HM.out.set (R':=[(p25,P25),(fb,FB),(pw,worldO sp rp (.slice (some ⟨g,0,none⟩) NP pc))]) Ki.out (Upd.cell_only W5 p28 0 (.int .i64 (g0+1))) hset2 (fun y hy=>⟨List.mem_cons_of_mem _ hy,fun e=>by
    have h1:=Kp.out
    have h2:=Zx.out y hy
    omega⟩)
   have hun:=(HU.out.trans (Upd.cell_only W5 p28 0 (.int .i64 (g0+1))) (fun k hk e=>by have:=Kp.out;omega))
   generalize W5.setCell ⟨p28,0,none⟩ (.int .i64 (g0+1))=W6 at hmn hun hset2⊢
   have Zy:=hid (Kl.out.keep hun)
   have Zz:=hid (show VerAt W6 (.agg #[.int .i64 (g0+1),.int .i64 x.flushed,.int .i64 x.next,.int .i64 x.low,.int .i64 x.clock,.slice t1 m1 e1,.slice t2 m2 e2]) { x with gen:=g0+1 } from by
    obtain ⟨t1',e1',t2',e2',e,h1,h2⟩:=Zy.out
    injection e with e
    have e:=congrArg Array.toList e
    simp only [List.cons.injEq,and_true,Value.slice.injEq,true_and] at e
    refine ⟨t1',e1',t2',e2',?_,h1,h2⟩
    rw [e.1.1,e.1.2.1,e.1.2.2,e.2.1,e.2.2.1,e.2.2.2])
   clear HM
   have HM:=hid hmn
   clear hmn hun hset hset2 Ki Ky z0 hzl y0' u0 hyl
   have Zk:=hid (swaps_any HT.out HM.out (pw:=pw) (by simp) pre hps Zz.out ⟨⟨show -9223372036854775808≤g0+1 from by omega,show g0+1≤9223372036854775807 from by omega⟩,Kw.out.2.2.2.2.2⟩)
   obtain ⟨⟨z0,z1,z2,z3,z4,z5,z6⟩,-,hzl⟩:=verCells (HM.out.row (b:=p28) (o:=Obj.cells #[.int .i64 (g0+1),.int .i64 x.flushed,.int .i64 x.next,.int .i64 x.low,.int .i64 x.clock,.slice t1 m1 e1,.slice t2 m2 e2] 25 (0,0)) (by simp))
   go_wp2_with fail
   refine Zk.out.mono ?_
   rintro e W7 ⟨rfl,sn,rn,hm7⟩
   have Ja:=hid hm7
   clear hm7
   go_wp2
   go_ret
   exact ⟨rfl,sn,rn,Ja.out.sub (fun y hy=>by simp only [List.mem_cons,List.not_mem_nil,or_false] at hy⊢;exact .inr (.inr (.inr hy)))⟩
  ·subst hkd
   have hv:=HQ.out.ver
   simp only at hv
   rw [←Km.out,←Kn.out] at hv
   have Zb:=hid hv
   clear hv
   have Zl:=hid (show ∀r∈x.runs,r.first.length≤140737488351232∧r.last.length≤140737488351232∧r.num≤9223372036854775807 from fun r hr=>by
    have h:=Kw.out.2.2.2.2.2.2.2.2.2.2.2 r hr
    exact ⟨h.2.2.2.2.2.2.1,h.2.2.2.2.2.2.2,h.1.2⟩)
   have Ze:=hid (show VerIn x from Kw.out.2.2.2.2)
   have Ke:=hid (show (∀k∈s.blocks,k<wq.heap.size)∧∀k,r.own k→k<wq.heap.size from ⟨fun k hk=>HM.out.sin.lt k hk,fun k hk=>HM.out.ra.ins.lt hk⟩)
   have Zm:=hid (show (∀b,(Value.slice (some ⟨g,0,none⟩) NP pc).ownBlock=some b→b<wq.heap.size)∧∀y∈[(fb,FB),(pw,worldO sp rp (.slice (some ⟨g,0,none⟩) NP pc))],y.1<wq.heap.size from ⟨fun b hb=>HM.out.ps.lt b hb,fun y hy=>lt_of_heap (HM.out.box y hy).1⟩)
   have Jb:=hid HM.out.upd.size
   have HA:=hid (Zb.out.keep HM.out.upd)
   have g2:wq.cell? ⟨fb,2,none⟩=some (.int .i64 x.gen):=rowC (HM.out.row HF.out) Kc.out 2
   have g3:wq.cell? ⟨fb,3,none⟩=some (.int .i64 x.flushed):=rowC (HM.out.row HF.out) Kc.out 3
   have g4:wq.cell? ⟨fb,4,none⟩=some (.int .i64 x.next):=rowC (HM.out.row HF.out) Kc.out 4
   have g5:wq.cell? ⟨fb,5,none⟩=some (.int .i64 x.low):=rowC (HM.out.row HF.out) Kc.out 5
   have g6:wq.cell? ⟨fb,6,none⟩=some (.int .i64 x.clock):=rowC (HM.out.row HF.out) Kc.out 6
   have g7:wq.cell? ⟨fb,7,none⟩=some (.slice s1 m1 d1):=rowC (HM.out.row HF.out) Kc.out 7
   have g8:wq.cell? ⟨fb,8,none⟩=some (.slice s2 m2 d2):=rowC (HM.out.row HF.out) Kc.out 8
   have Ko:=hid (copied_any HA.out Ze.out)
   go_wp2_with fail
   refine Ko.out.mono ?_
   rintro e W2 ⟨v2,rfl,hown,hu2⟩
   have Kr:=hid hown
   have Kl:=hid hown.at
   obtain ⟨t1,e1,t2,e2,rfl,-,-⟩:=hown.at
   rw [←Km.out,←Kn.out] at Kl Kr⊢
   have hmq:=HM.out.quiet hu2
   clear HM
   have HM:=hid hmq
   have Kz:=hid hu2.size
   clear hown hu2 Ko HA hmq
   clear g2 g3 g4 g5 g6 g7 g8
   go_upto_region 19 with fail
   obtain ⟨P15,hB⟩:∃O,O=Obj.cells #[.int .i64 x.gen,.int .i64 x.flushed,.int .i64 x.next,.int .i64 x.low,.int .i64 x.clock,.slice t1 m1 e1,.slice t2 m2 e2] 25 (0,0):=⟨_,rfl⟩
   obtain ⟨W3,hW⟩:∃W,W=W2.alloc P15:=⟨_,rfl⟩
   obtain ⟨p15,hp⟩:∃p,p=W2.heap.size:=⟨_,rfl⟩
   have hmb:=HM.out.push P15
   have hub:=(Upd.refl (fun _=>False) W2).alloc P15
   rw [←hW,←hp] at hmb
   rw [←hW] at hub
   rw [hB] at hW
   rw [←hW,←hp]
   have Ks:=hid hp;have Kh:=hid hB
   clear HM hp hB hW
   have HM:=hid hmb;have HU:=hid hub
   clear hmb hub
   have Ka:=hid (HU.out.mono (T:=fun k=>k<wq.heap.size) (fun _ _ e=>e.elim))
   have Zn:=hid (Kl.out.keep HU.out)
   have Kj:=hid (show wq.heap.size≤W3.heap.size∧W2.heap.size≤W3.heap.size∧W2.heap.size<W3.heap.size from ⟨Nat.le_trans Kz.out HU.out.size,HU.out.size,by have:=HM.out.lt (b:=p15) (List.mem_cons_self ..);have:=Ks.out;omega⟩)
   have Zo:=hid (laid_any Zn.out Ze.out)
   obtain ⟨⟨z0,z1,z2,z3,z4,z5,z6⟩,-,hzl⟩:=verCells ((HM.out.row (b:=p15) (List.mem_cons_self ..)).trans (congrArg some Kh.out))
   go_wp2_with fail
   refine Zo.out.mono ?_
   rintro e W4 ⟨v4,wv,sv,gr,cr,L,WL,rfl,hlaid,hu4⟩
   obtain ⟨q1,f1,esv,-⟩:=hlaid.st.bat
   subst esv
   have hv4:=hlaid.eq
   obtain ⟨wa,wc,ew⟩:=hlaid.arr.shape
   obtain ⟨LW,hLW⟩:∃l,l=WL.length:=⟨_,rfl⟩
   rw [←hLW] at ew
   subst ew
   subst hv4
   rw [←Km.out,←Kn.out] at hlaid⊢
   have hmq:=HM.out.quiet hu4
   have hqq:=Ka.out.trans (hu4.mono (T:=fun k=>k<wq.heap.size) (fun _ _ e=>e.elim)) (fun _ _ e=>e)
   clear HM Ka
   have HM:=hid hmq;have Ka:=hid hqq
   have Kb:=hid hlaid
   have Kt:=hid (show ∀k,(k=gr∨ArrIn WL k)→W3.heap.size≤k∧k<W4.heap.size from fun k hk=>hlaid.low hk)
   have Zp:=hid hu4.size
   clear hlaid hu4 hLW z0 z1 z2 z3 z4 z5 z6 hzl Zo hmq hqq HU Kl Zn
   go_upto_region 20 with fail
   obtain ⟨P16,hB⟩:∃O,O=Obj.cells #[.int .i64 x.gen,.int .i64 x.flushed,.int .i64 x.next,.int .i64 x.low,.int .i64 x.clock,.slice q1 m1 f1,.slice (some ⟨gr,0,none⟩) m2 cr] 25 (0,0):=⟨_,rfl⟩
   obtain ⟨W5,hW⟩:∃W,W=W4.alloc P16:=⟨_,rfl⟩
   obtain ⟨p16,hp⟩:∃p,p=W4.heap.size:=⟨_,rfl⟩
   have hmb:=HM.out.push P16
   have hub:=(Upd.refl (fun _=>False) W4).alloc P16
   rw [←hW,←hp] at hmb
   rw [←hW] at hub
   rw [hB] at hW
   rw [←hW,←hp]
   have Zf:=hid hp;have Ku:=hid hB
   clear HM hp hB hW
   have HM:=hid hmb;have HU:=hid hub
   clear hmb hub
   have hqq:=Ka.out.trans (HU.out.mono (T:=fun k=>k<wq.heap.size) (fun _ _ e=>e.elim)) (fun _ _ e=>e)
   have hla5:=Kb.out.keep HU.out
   have Kk:=hid HU.out.size
   clear Ka Kb HW HF
   have Ka:=hid hqq;have Kb:=hid hla5
   have Kf:=hid (show (p16,P16)∈[(p16,P16),(p15,P15),(fb,FB),(pw,worldO sp rp (.slice (some ⟨g,0,none⟩) NP pc))] from by simp)
   have Kg:=hid (show (p15,P15)∈[(p16,P16),(p15,P15),(fb,FB),(pw,worldO sp rp (.slice (some ⟨g,0,none⟩) NP pc))] from by simp)
   have HW:=hid (show (pw,worldO sp rp (.slice (some ⟨g,0,none⟩) NP pc))∈[(p16,P16),(p15,P15),(fb,FB),(pw,worldO sp rp (.slice (some ⟨g,0,none⟩) NP pc))] from by simp)
   have hmd:=HM.out.quiet ((Upd.refl (fun _=>False) W5).drew)
   have hld:=Kb.out.keep ((Upd.refl (fun _=>False) W5).drew)
   have hqd:=Ka.out.drew
   clear hqq hla5 HM Kb Ka HU
   have HM:=hid hmd;have Kb:=hid hld;have Ka:=hid hqd
   clear hmd hld hqd
   have Kx:=hid (sweep_any (Zi.out.keep HM.out.upd) HM.out.sin (HM.out.zero Zi.out.lt) pre hps Kb.out.at Zl.out)
   have Jc:=hid HM.out.names
   rw [HM.out.spp] at Kx
   obtain ⟨E,hE⟩:∃E,E=sweepP s.abs pre x:=⟨_,rfl⟩
   have Jd:=hid (show 0≤E.1.2∧E.1.2≤200 from by rw [hE];exact sweepP_in _ _ _)
   have Zg:=hid hE
   rw [←hE] at Kx
   clear hE
   have hHeld:(fun V=>V.cell? ⟨pw,0,none⟩=some (.pointer (some ⟨sp,0,none⟩))∧V.cell? ⟨pw,1,none⟩=some (.pointer (some ⟨rp,0,none⟩))∧V.heap[p15]? = some P15∧V.heap[p16]? = some P16) W5.drew:=⟨(worldCells (HM.out.row HW.out)).1,(worldCells (HM.out.row HW.out)).2.1,HM.out.row Kg.out,HM.out.row Kf.out⟩
   refine wp_region_l (fun V=>V.cell? ⟨pw,0,none⟩=some (.pointer (some ⟨sp,0,none⟩))∧V.cell? ⟨pw,1,none⟩=some (.pointer (some ⟨rp,0,none⟩))∧V.heap[p15]? = some P15∧V.heap[p16]? = some P16) 11 12 rfl (by kernel_rfl) ?_
   refine' tk 0 [11] (y:=?y20_0) (r:=?r20_0)
   case y20_0=>(intro wS hSw;go_simp;(try with_reducible rfl))
   refine' tk 1 [11] (y:=?y20_1) (r:=?r20_1)
   case y20_1=>(intro wS hSw;go_simp;(try with_reducible rfl))
   refine' tk 2 [11] (y:=?y20_2) (r:=?r20_2)
   case y20_2=>(intro wS hSw;go_simp;(try with_reducible rfl))
   refine' tk 3 [11] (y:=?y20_3) (r:=?r20_3)
   case y20_3=>(intro wS hSw;obtain ⟨g0,g1,-,-⟩:=hSw;go_simp;(try with_reducible rfl))
   refine' tk 4 [11] (y:=?y20_4) (r:=?r20_4)
   case y20_4=>(intro wS hSw;go_simp;(try with_reducible rfl))
   refine' tk 5 [11] (y:=?y20_5) (r:=?r20_5)
   case y20_5=>(intro wS hSw;obtain ⟨-,-,g7,g8⟩:=hSw;obtain ⟨⟨r0,r1,r2,r3,r4,r5,r6⟩,-,-⟩:=verCells ((g8).trans (congrArg some Ku.out));go_simp;(try with_reducible rfl))
   (try simp only [Act.put,sA,sZ,sS])
   refine wpAnyL_one 6 rfl (by kernel_rfl) (fun K hK=>?_)
   go_simp
   go_at_call 42
   refine Kx.out.mono ?_
   rintro e W6 ⟨ga,rfl,hsg,sn,hst6,habs6,hgn⟩
   have Je:=hid (show ∀k∈sn.blocks,k<wq.heap.size∨W5.heap.size≤k from fun k hk=>(hst6.foot k hk).imp (Ke.out.1 k) (fun e=>e))
   have hsz6:=hst6.upd.size
   have hlq:=Kb.out.upd hst6.upd (fun k hk=>by have h1:=Ke.out.1 k hk;have h2:=Kj.out;omega)
   have hqq:=Ka.out.trans hst6.upd (fun k _ hk=>Ke.out.1 k hk)
   have hmq:=HM.out.stepD hst6
   clear HM
   have HM:=hid hmq
   clear hmq hst6
   clear Kb Ka
   have Kb:=hid hlq;have Ka:=hid hqq;have Jf:=hid habs6
   have Kd:=hid hsg
   have Za:=hid (show W5.heap.size≤W6.heap.size from hsz6)
   clear hlq hqq habs6 Kx hsg hgn
   have hHeld6:(fun V=>V.cell? ⟨pw,0,none⟩=some (.pointer (some ⟨sp,0,none⟩))∧V.cell? ⟨pw,1,none⟩=some (.pointer (some ⟨rp,0,none⟩))∧V.heap[p15]? = some P15∧V.heap[p16]? = some P16) W6:=⟨(worldCells (HM.out.row HW.out)).1,(worldCells (HM.out.row HW.out)).2.1,HM.out.row Kg.out,HM.out.row Kf.out⟩
   refine hK.out _ _ (fun _=>hHeld6) ?_
   clear hK K
   (try simp only [Act.put,sA,sZ,sS])
   refine' tk 7 [11] (y:=?y20_7) (r:=?r20_7)
   case y20_7=>(intro wS hSw;go_simp;(try with_reducible rfl))
   refine' tk 8 [11] (y:=?y20_8) (r:=?r20_8)
   case y20_8=>(intro wS hSw;go_simp;(try with_reducible rfl))
   refine' tk 9 [11] (y:=?y20_9) (r:=?r20_9)
   case y20_9=>(intro wS hSw;go_simp;(try with_reducible rfl))
   (try simp only [Act.put,sA,sZ,sS])
   refine' tk 10 [11] (y:=?y20_10) (r:=?r20_10)
   case y20_10=>(intro wS hSw;go_simp;(try with_reducible rfl))
   (try simp only [Act.put,sA,sZ,sS])
   refine wpAnyL_one 11 rfl (by kernel_rfl) (fun K hK=>?_)
   go_simp
   refine hK.out _ _ (fun h=>absurd rfl h) ?_
   clear hK K
   (try simp only [Act.put,sA,sZ,sS])
   refine wpAnyL_done (by kernel_rfl) ?_ _
   clear hHeld hHeld6
   have hmd:=HM.out.quiet ((Upd.refl (fun _=>False) W6).drew)
   clear HM
   have HM:=hid hmd
   clear hmd
   have hlq:=Kb.out.keep ((Upd.refl (fun _=>False) W6).drew)
   have hgq:=Kd.out.upd ((Upd.refl (fun _=>False) W6).drew) (fun _ _ e=>e)
   have hqq:=Ka.out.drew
   clear Kb Kd Ka
   have Kb:=hid hlq;have Kd:=hid hgq;have Ka:=hid hqq
   clear hlq hgq hqq
   have Zh:=hid (refSweep10_any HM.out.ra pre hps (v:=.agg #[.int .i64 x.gen,.int .i64 x.flushed,.int .i64 x.next,.int .i64 x.low,.int .i64 x.clock,.slice t1 m1 e1,.slice t2 m2 e2]) (x:=x) (fun W' hu=>by
    have h:=(Kr.out.keep (Ka.out.trans hu (fun k _ hk=>Ke.out.2 k hk)) (fun _ e=>e)).at
    exact h) Zl.out Jc.out)
   rw [HM.out.rpp,←Zg.out] at Zh
   go_upto_region 21 with fail
   have hHeld:(fun V=>V.cell? ⟨pw,0,none⟩=some (.pointer (some ⟨sp,0,none⟩))∧V.cell? ⟨pw,1,none⟩=some (.pointer (some ⟨rp,0,none⟩))∧V.heap[p15]? = some P15∧V.heap[p16]? = some P16) W6.drew:=⟨(worldCells (HM.out.row HW.out)).1,(worldCells (HM.out.row HW.out)).2.1,HM.out.row Kg.out,HM.out.row Kf.out⟩
   refine wp_region_l (fun V=>V.cell? ⟨pw,0,none⟩=some (.pointer (some ⟨sp,0,none⟩))∧V.cell? ⟨pw,1,none⟩=some (.pointer (some ⟨rp,0,none⟩))∧V.heap[p15]? = some P15∧V.heap[p16]? = some P16) 11 12 rfl (by kernel_rfl) ?_
   refine' tk 0 [11] (y:=?y21_0) (r:=?r21_0)
   case y21_0=>(intro wS hSw;go_simp;(try with_reducible rfl))
   refine' tk 1 [11] (y:=?y21_1) (r:=?r21_1)
   case y21_1=>(intro wS hSw;go_simp;(try with_reducible rfl))
   refine' tk 2 [11] (y:=?y21_2) (r:=?r21_2)
   case y21_2=>(intro wS hSw;go_simp;(try with_reducible rfl))
   refine' tk 3 [11] (y:=?y21_3) (r:=?r21_3)
   case y21_3=>(intro wS hSw;obtain ⟨g0,g1,-,-⟩:=hSw;go_simp;(try with_reducible rfl))
   refine' tk 4 [11] (y:=?y21_4) (r:=?r21_4)
   case y21_4=>(intro wS hSw;go_simp;(try with_reducible rfl))
   refine' tk 5 [11] (y:=?y21_5) (r:=?r21_5)
   case y21_5=>(intro wS hSw;obtain ⟨-,-,g7,g8⟩:=hSw;obtain ⟨⟨r0,r1,r2,r3,r4,r5,r6⟩,-,-⟩:=verCells ((g7).trans (congrArg some Kh.out));go_simp;(try with_reducible rfl))
   (try simp only [Act.put,sA,sZ,sS])
   refine wpAnyL_one 6 rfl (by kernel_rfl) (fun K hK=>?_)
   go_simp
   go_at_call 102
   refine Zh.out.mono ?_
   rintro e W7 ⟨gb,rfl,hsg,r7,hg7,hgn⟩
   have hlq:=Kb.out.upd hg7.st.upd (fun k hk=>by have h1:=Ke.out.2 k hk;have h2:=Kj.out;omega)
   have hqq:=Ka.out.trans hg7.st.upd (fun k _ hk=>Ke.out.2 k hk)
   have hgq:=Kd.out.upd hg7.st.upd (fun b e hk=>by have h1:=Ke.out.2 b hk;have h2:=Kd.out.2 b e;have h3:=Kj.out;have h4:W5.heap.size≤b:=h2;have h5:=Kk.out;have h6:=Zp.out;omega)
   have Jg:=hid (show ∀k,r7.own k→k<wq.heap.size∨W5.heap.size≤k from fun k hk=>(hg7.st.foot k hk).imp (Ke.out.2 k) (fun e=>Nat.le_trans Za.out e))
   have hmq:=HM.out.stepR hg7
   clear HM
   have HM:=hid hmq
   clear hmq hg7
   clear Kb Ka Kd
   have Kb:=hid hlq;have Ka:=hid hqq;have Kd:=hid hgq;have Kv:=hid hsg
   clear hlq hqq hgq Zh hsg hgn
   have hHeld7:(fun V=>V.cell? ⟨pw,0,none⟩=some (.pointer (some ⟨sp,0,none⟩))∧V.cell? ⟨pw,1,none⟩=some (.pointer (some ⟨rp,0,none⟩))∧V.heap[p15]? = some P15∧V.heap[p16]? = some P16) W7:=⟨(worldCells (HM.out.row HW.out)).1,(worldCells (HM.out.row HW.out)).2.1,HM.out.row Kg.out,HM.out.row Kf.out⟩
   refine hK.out _ _ (fun _=>hHeld7) ?_
   clear hK K
   (try simp only [Act.put,sA,sZ,sS])
   refine' tk 7 [11] (y:=?y21_7) (r:=?r21_7)
   case y21_7=>(intro wS hSw;go_simp;(try with_reducible rfl))
   refine' tk 8 [11] (y:=?y21_8) (r:=?r21_8)
   case y21_8=>(intro wS hSw;go_simp;(try with_reducible rfl))
   refine' tk 9 [11] (y:=?y21_9) (r:=?r21_9)
   case y21_9=>(intro wS hSw;go_simp;(try with_reducible rfl))
   (try simp only [Act.put,sA,sZ,sS])
   refine' tk 10 [11] (y:=?y21_10) (r:=?r21_10)
   case y21_10=>(intro wS hSw;go_simp;(try with_reducible rfl))
   (try simp only [Act.put,sA,sZ,sS])
   refine wpAnyL_one 11 rfl (by kernel_rfl) (fun K hK=>?_)
   go_simp
   refine hK.out _ _ (fun h=>absurd rfl h) ?_
   clear hK K
   (try simp only [Act.put,sA,sZ,sS])
   refine wpAnyL_done (by kernel_rfl) ?_ _
   clear hHeld hHeld7
   have Zq:=hid (Kr.out.keep Ka.out (fun _ e=>e)).at
   have Zr:=hid (kept_any Kb.out Zq.out Ze.out)
   obtain ⟨⟨z0,z1,z2,z3,z4,z5,z6⟩,-,hzl⟩:=verCells ((HM.out.row Kg.out).trans (congrArg some Kh.out))
   obtain ⟨⟨y0,y1,y2,y3,y4,y5,y6⟩,-,hyl⟩:=verCells ((HM.out.row Kf.out).trans (congrArg some Ku.out))
   go_wp2_with fail
   refine Zr.out.mono ?_
   rintro e W8 ⟨rfl,hu8⟩
   have hmq:=HM.out.new (R':=[(p16,P16),(p15,P15),(fb,FB),(pw,worldO sp rp (.slice (some ⟨g,0,none⟩) NP pc))]) hu8 (fun k hk=>by
    have hlo:=Kt.out k hk
    have h45:=Kk.out;have h5:=Ks.out;have h8:=Zf.out;have h2:=Kz.out;have h23:=Kj.out;have h0:=Jb.out
    refine ⟨fun e=>(Je.out k e).elim (fun e=>by omega) (fun e=>by omega),fun e=>(Jg.out k e).elim (fun e=>by omega) (fun e=>by omega),fun y hy e=>?_,fun e=>by have:=Zm.out.1 k e;omega,by omega⟩
    rcases List.mem_cons.1 hy with rfl|hy
    ·simp only at e;omega
    ·rcases List.mem_cons.1 hy with rfl|hy
     ·simp only at e;omega
     ·have:=Zm.out.2 y hy;omega) (fun _ hy=>hy)
   have hga:=Kd.out.upd hu8 (fun b e hk=>by have h1:=(Kt.out b hk).2;have h2:W5.heap.size≤b:=Kd.out.2 b e;have:=Kk.out;omega)
   have hgb:=Kv.out.upd hu8 (fun b e hk=>by have h1:=(Kt.out b hk).2;have h2:W6.heap.size≤b:=Kv.out.2 b e;have h3:=Za.out;have:=Kk.out;omega)
   clear HM Ka z0 z1 z2 z3 z4 z5 z6 hzl y0 y1 y2 y3 y4 y5 y6 hyl Zr hu8 Kb Kd Kv
   have HM:=hid hmq;have Kd:=hid hga;have Kv:=hid hgb
   clear hmq hga hgb
   have Zs:=hid (sameNames_yes Kd.out.at' Kv.out.at')
   go_wp2_with fail
   refine Zs.out.mono ?_
   rintro e W9 ⟨rfl,hu9⟩
   have hmq:=HM.out.quiet hu9
   clear HM
   have HM:=hid hmq
   clear hmq hu9 Zs
   have Jh:=hid (fun W=>lawNum_any W E.1.2 (by have:=Jd.out;omega))
   go_wp2_with fail
   refine (Jh.out _).mono ?_
   rintro e W ⟨rfl,hww⟩
   obtain rfl:=hww.symm
   go_wp2
   go_ret
   refine ⟨by simp,sn,r7,?_⟩
   rw [Jf.out,Zg.out]
   have h:=HM.out.sub (R':=[(pw,worldO sp rp (.slice (some ⟨g,0,none⟩) NP pc))]) (fun y hy=>by simp only [List.mem_cons,List.not_mem_nil,or_false] at hy⊢;exact .inr (.inr (.inr hy)))
   rw [Zg.out] at h
   exact h
end Go.Proofs.YtgaidmohdhaonaaGreatDoor
