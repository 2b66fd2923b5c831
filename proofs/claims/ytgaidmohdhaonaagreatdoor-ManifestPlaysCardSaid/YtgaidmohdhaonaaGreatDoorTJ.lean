/-
  (*World).plays of ManifestPlays, walked: Load.
-/
import Derived.Test.YtgaidmohdhaonaaGreatDoorTF
import Derived.Test.YtgaidmohdhaonaaGreatDoorTD
import Derived.Test.YtgaidmohdhaonaaGreatDoorTC
import Derived.Test.YtgaidmohdhaonaaGreatDoorSG
set_option linter.unusedVariables false
set_option linter.unusedSimpArgs false
set_option linter.unnecessarySimpa false
set_option linter.unusedSectionVars false
set_option maxRecDepth 100000
set_option maxHeartbeats 12800000
namespace Go.Proofs.YtgaidmohdhaonaaGreatDoor
open Go Go.RowKit
theorem VerOwn.zero (W:World) (base:Nat):VerOwn W base (.agg (verC 0 0 0 0 0 (.slice none 0 0) (.slice none 0 0))) zeroVer:=
 ⟨.slice none 0 0,.slice none 0 0,[],rfl,.inl ⟨rfl,rfl⟩,⟨⟨rfl,.inl ⟨rfl,rfl⟩⟩,fun y hy=>by cases hy⟩,rfl,by simp [keyBlocks,Value.ownBlock],fun k hk=>by simp [keyBlocks,Value.ownBlock] at hk⟩
theorem LoadRes.any {w':World} {base:Nat} {e:Ending} {a:DiskA} {pre:ByteArray} (h:LoadRes w' base e (loadP a pre).1) :
  ∃v,e=.returned (.tuple #[v,.bool (loadP a pre).1.1.isSome,.int .i64 (loadP a pre).1.2])∧VerOwn w' base v ((loadP a pre).1.1.getD zeroVer):=by
 rcases hl:(loadP a pre).1 with ⟨o,k⟩
 rw [hl] at h
 cases o with
 | none=>exact ⟨_,h,VerOwn.zero _ _⟩
 | some x=>
  obtain ⟨rfl,hok⟩:=loadP_some hl
  obtain ⟨v,rfl,hown⟩:=h
  exact ⟨v,rfl,hown⟩
theorem LoadKept.any {w':World} {base:Nat} {e:Ending} {a:DiskA} {pre:ByteArray} (h:LoadKept w' base e (loadP a pre).1) :
  ∃v,e=.returned (.tuple #[v,.bool (loadP a pre).1.1.isSome,.int .i64 (loadP a pre).1.2])∧∀W',Upd (fun _=>False) w' W'→VerAt W' v ((loadP a pre).1.1.getD zeroVer):=by
 rcases hl:(loadP a pre).1 with ⟨o,k⟩
 rw [hl] at h
 cases o with
 | none=>exact ⟨_,h,fun W' _=>(VerOwn.zero W' 0).at⟩
 | some x=>
  obtain ⟨rfl,hok⟩:=loadP_some hl
  obtain ⟨v,rfl,hown⟩:=h
  exact ⟨v,rfl,fun W' hu=>hown (fun _=>False) W' (fun _ e=>e.elim) hu⟩
theorem loadP_runs (a:DiskA) (pre:ByteArray):((loadP a pre).1.1.getD zeroVer).runs.length≤64:=by
 rcases hl:(loadP a pre).1 with ⟨o,k⟩
 cases o with
 | none=>simp [zeroVer]
 | some x=>
  obtain ⟨-,hok⟩:=loadP_some hl
  obtain ⟨-,h1,h2⟩:=headA_of (okA_head hok)
  simp only [Option.getD_some]
  omega
theorem MP.take {w W:World} {sp rp:Nat} {pv:Value} {P:List ByteArray} {s:DS} {r:RS} {a:DiskA} {R:List (Nat×Obj)} (h:MP w W sp rp pv P s r a R) {b:Nat} {o:Obj} (ho:W.heap[b]? = some o) (hf:w.heap.size≤b∧b∉s.blocks∧¬r.own b∧¬pv.ownBlock=some b):MP w W sp rp pv P s r a ((b,o) :: R):=by
 refine ⟨h.sin,h.spp,h.ra,h.rpp,h.low,h.lowr,h.ap,h.upd,fun x hx=>?_,h.ps,h.pn⟩
 rcases List.mem_cons.1 hx with rfl|hx
 ·exact ⟨ho,hf⟩
 ·exact h.box x hx
theorem plays_load {w W0:World} {sp rp pw:Nat} {pv:Value} {P:List ByteArray} {s:DS} {r:RS} {o:OpT} {q:OpQ} (hT:TabIn w) (hT2:TabP w) (hm:MP w W0 sp rp pv P s r s.abs [(pw,worldO sp rp pv)]) (hPl:1≤P.length∧P.length≤3) (hPs:∀p∈P,p.size≤140737488355328) (hq:OpAt w o q) (hin:OpIn o) :
  Calls Tryz.prog 51 #[.pointer (some ⟨pw,0,none⟩),.agg #[.int .i64 1,.int .i64 o.obj,.int .i64 o.v.gen,.int .i64 o.v.flushed,.int .i64 o.v.next,.int .i64 o.v.low,.int .i64 o.v.clock,.slice q.s1 o.v.state.length q.d1,.slice q.s2 o.v.runs.length q.d2,.int .i64 o.n,.string o.name,.slice q.s3 o.b.length q.d3,.slice q.s4 o.cuts.length q.d4]] W0 fun e W'=>e=.returned (.bool true)∧∃s2 r2,MP w W' sp rp pv P s2 r2 s2.abs [(pw,worldO sp rp pv)]:=by
 have HT:=hid hT;have Zs:=hid hT2;have Zh:=hid hPl;have Zi:=hid hPs;have HQ:=hid hq;have Zt:=hid hin
 obtain ⟨s1,d1,s2,d2,s3,d3,s4,d4⟩:=q
 obtain ⟨kd,ob,x,on,nm,bb,cuts⟩:=o
 simp only at *
 obtain ⟨m1,hm1⟩:∃m,m=x.state.length:=⟨_,rfl⟩
 obtain ⟨m2,hm2⟩:∃m,m=x.runs.length:=⟨_,rfl⟩
 obtain ⟨m3,hm3⟩:∃m,m=bb.length:=⟨_,rfl⟩
 obtain ⟨m4,hm4⟩:∃m,m=cuts.length:=⟨_,rfl⟩
 rw [←hm1,←hm2,←hm3,←hm4]
 have Zu:=hid hm1;have Zv:=hid hm2;have Zw:=hid hm3;have Zx:=hid hm4
 obtain ⟨pa,pc,rfl,hpl1,hpl2⟩:=hm.ps.shape
 obtain ⟨NP,hNP⟩:∃n,n=P.length:=⟨_,rfl⟩
 have Zj:=hid hNP
 rw [←hNP] at hpl1 hm⊢
 have hnp:1≤NP∧NP≤3:=by rw [hNP];exact Zh.out
 have HM:=hid hm
 have hobj : -9223372036854775808≤ob∧ob≤9223372036854775807:=hin.1
 clear hT hT2 hPl hPs hq hin hm1 hm2 hm3 hm4 hm hNP
 go_enter Tryz.func51,Tryz.ntmps51
 go_upto_region 1 with fail
 obtain ⟨FB,hFB⟩:∃O,O=Obj.cells #[.int .i64 1,.int .i64 ob,.int .i64 x.gen,.int .i64 x.flushed,.int .i64 x.next,.int .i64 x.low,.int .i64 x.clock,.slice s1 m1 d1,.slice s2 m2 d2,.int .i64 on,.string nm,.slice s3 m3 d3,.slice s4 m4 d4] 109 (0,0):=⟨_,rfl⟩
 obtain ⟨W1,hW1⟩:∃W,W=W0.alloc FB:=⟨_,rfl⟩
 obtain ⟨fb,hfb⟩:∃p,p=W0.heap.size:=⟨_,rfl⟩
 have hmb:=HM.out.push FB
 rw [←hW1,←hfb] at hmb
 rw [hFB] at hW1
 rw [←hW1,←hfb]
 have Ko:=hid hFB
 clear HM hFB hW1
 have Kf:=hid hmb
 have HW:=hid (show (pw,worldO sp rp (.slice pa NP pc))∈[(fb,FB),(pw,worldO sp rp (.slice pa NP pc))] from by simp)
 have HF:=hid (show (fb,FB)∈[(fb,FB),(pw,worldO sp rp (.slice pa NP pc))] from by simp)
 obtain ⟨c0,c1,c2⟩:=worldCells (hmb.row HW.out)
 have f1:W1.cell? ⟨fb,1,none⟩=some (.int .i64 ob):=rowC (hmb.row HF.out) Ko.out 1
 have f0:W1.cell? ⟨fb,0,none⟩=some (.int .i64 1):=rowC (hmb.row HF.out) Ko.out 0
 clear hfb hmb
 go_wp2_with fail
 go_quiet (fail)
 revert nq
 intro nq
 have hmd:=Kf.out.quiet ((Upd.refl (fun _=>False) W1).drewN nq)
 generalize W1.drewN nq=wq at hmd⊢
 have HM:=hid hmd
 clear c0 c1 c2 f0 f1
 obtain ⟨c0,c1,c2⟩:=worldCells (hmd.row HW.out)
 have f0:wq.cell? ⟨fb,0,none⟩=some (.int .i64 1):=rowC (hmd.row HF.out) Ko.out 0
 have hb1 : -(NP:Int)<ob.tmod NP:=Int.lt_tmod_of_pos ob (by omega)
 have hb2:ob.tmod NP<(NP:Int):=Int.tmod_lt_of_pos ob (by omega)
 generalize ob.tmod (NP:Int)=t at hb1 hb2⊢
 clear hmd Kf hobj
 go_upto_if 38 with fail
 go_cut [5] (fun kv wx=>∃k:Nat,k<NP∧kv=.int .i64 k∧wx=wq)
 case first=>
  by_cases ht:t<0
  ·go_wp2
   go_meet
   exact ⟨(t+NP).toNat,by omega,by rw [Int.toNat_of_nonneg (by omega)],rfl⟩
  ·go_wp2
   go_meet
   exact ⟨t.toNat,by omega,by rw [Int.toNat_of_nonneg (by omega)],rfl⟩
 case rest=>
  obtain ⟨k,hk,rfl,hww⟩:=hcut
  obtain rfl:=hww.symm
  clear hww hb1 hb2
  have hkp:k<P.length:=by have:=Zj.out;omega
  obtain ⟨g,c,eg,hgl,hcell⟩:=HM.out.ps.at hkp
  injection eg with eg1 eg2 eg3
  subst eg1;subst eg3
  clear eg2
  obtain ⟨pre,hpre⟩:∃p,p=P[k]:=⟨_,rfl⟩
  have hps:pre.size≤140737488355328:=by rw [hpre];exact Zi.out _ (List.getElem_mem hkp)
  rw [←hpre] at hcell
  clear hpre hkp
  have Kp:=hid (show (∀k∈s.blocks,k<wq.heap.size)∧∀k,r.own k→k<wq.heap.size from ⟨fun k hk=>HM.out.sin.lt k hk,fun k hk=>HM.out.ra.ins.lt hk⟩)
  have Ky:=hid (show (∀b,(Value.slice (some ⟨g,0,none⟩) NP pc).ownBlock=some b→b<wq.heap.size)∧∀y∈[(fb,FB),(pw,worldO sp rp (.slice (some ⟨g,0,none⟩) NP pc))],y.1<wq.heap.size from ⟨fun b hb=>HM.out.ps.lt b hb,fun y hy=>lt_of_heap (HM.out.box y hy).1⟩)
  have Zk:=hid HM.out.upd.size
  have Kq:=hid (load_own (HT.out.keep HM.out.upd) HM.out.sin (HM.out.zero HT.out.1) pre hps)
  rw [HM.out.spp] at Kq
  obtain ⟨L,hL⟩:∃L,L=loadP s.abs pre:=⟨_,rfl⟩
  have Kr:=hid (show 0≤L.1.2∧L.1.2≤100 from by rw [hL];exact loadP_in _ _)
  have Kg:=hid hL
  have Kz:=hid (show (L.1.1.getD zeroVer).runs.length≤64 from by rw [hL];exact loadP_runs _ _)
  clear hL
  go_wp2_with fail
  refine Kq.out.mono ?_
  rintro e W2 ⟨hres,sn,hst2,habs2,hbl2⟩
  obtain ⟨v,rfl,hown⟩:=hres.any
  rw [←Kg.out] at hown habs2⊢
  have Za:=hid habs2
  have Zl:=hid (show ∀k∈sn.blocks,k<wq.heap.size from fun k hk=>Kp.out.1 k (hbl2 ▸ hk))
  have Zr:=hid hst2.upd.size
  have hmq:=HM.out.stepD hst2
  clear HM
  have HM:=hid hmq
  clear hmq hst2
  obtain ⟨X,hX⟩:∃X,X=L.1.1.getD zeroVer:=⟨_,rfl⟩
  rw [←hX] at hown Kz
  have Zm:=hid hX
  obtain ⟨IS,hIS⟩:∃b,b=L.1.1.isSome:=⟨_,rfl⟩
  obtain ⟨K,hK⟩:∃k,k=L.1.2:=⟨_,rfl⟩
  rw [←hIS,←hK]
  rw [←hK] at Kr
  have Zn:=hid hIS;have Zo:=hid hK
  have Kj:=hid hown
  obtain ⟨st,rs,LL,ev,hst,hrs,hrl,-,hkb⟩:=hown.ex
  obtain ⟨a1,c1',est,-⟩:=hst.bat
  obtain ⟨a2,c2',ers⟩:=hrs.slice
  have hstn:∀k,st.ownBlock=some k→wq.heap.size≤k:=fun k e=>hkb k (List.mem_append_left _ (by rw [e];simp))
  have hnl:LL.length=X.runs.length:=by rw [hrl,List.length_map]
  rw [hnl] at ers
  subst est;subst ers;subst ev
  have Kh:=hid hst;have Kd:=hid hstn
  obtain ⟨m,hm⟩:∃m,m=X.state.length:=⟨_,rfl⟩
  obtain ⟨n2,hn2⟩:∃m,m=X.runs.length:=⟨_,rfl⟩
  obtain ⟨y1,hy1⟩:∃y,y=X.gen:=⟨_,rfl⟩
  obtain ⟨y2,hy2⟩:∃y,y=X.flushed:=⟨_,rfl⟩
  obtain ⟨y3,hy3⟩:∃y,y=X.next:=⟨_,rfl⟩
  obtain ⟨y4,hy4⟩:∃y,y=X.low:=⟨_,rfl⟩
  obtain ⟨y5,hy5⟩:∃y,y=X.clock:=⟨_,rfl⟩
  rw [←hm,←hn2,←hy1,←hy2,←hy3,←hy4,←hy5] at Kj
  rw [←hm] at Kh Kd
  rw [←hm,←hn2,←hy1,←hy2,←hy3,←hy4,←hy5]
  have Ki:=hid (show m=X.state.length∧n2=X.runs.length∧y1=X.gen∧y2=X.flushed∧y3=X.next∧y4=X.low∧y5=X.clock from ⟨hm,hn2,hy1,hy2,hy3,hy4,hy5⟩)
  clear hX hIS hK hown hst hrs hrl hkb hstn hnl hm hn2 hy1 hy2 hy3 hy4 hy5 habs2 hbl2 hres Kq
  go_upto_region 8 with fail
  obtain ⟨P7,hB⟩:∃O,O=Obj.cells #[.int .i64 y1,.int .i64 y2,.int .i64 y3,.int .i64 y4,.int .i64 y5,.slice a1 m c1',.slice a2 n2 c2'] 25 (0,0):=⟨_,rfl⟩
  obtain ⟨W3,hW⟩:∃W,W=W2.alloc P7:=⟨_,rfl⟩
  obtain ⟨p7,hp⟩:∃p,p=W2.heap.size:=⟨_,rfl⟩
  have hmb:=HM.out.push P7
  have hub:=(Upd.refl (fun _=>False) W2).alloc P7
  rw [←hW,←hp] at hmb
  rw [←hW] at hub
  rw [hB] at hW
  rw [←hW,←hp]
  have Kk:=hid hp;have Ke:=hid hB
  clear HM hp hB hW
  have HM:=hid hmb;have HU:=hid hub
  clear hmb hub
  have Ka:=hid (HU.out.mono (T:=fun k=>k<wq.heap.size) (fun _ _ e=>e.elim))
  have hf:=List.mem_cons_of_mem (p7,P7) HF.out
  have hw:=List.mem_cons_of_mem (p7,P7) HW.out
  clear HF HW
  have HF:=hid hf;have HW:=hid hw
  clear hf hw c0 c1 c2 HU
  have Kl:=hid (show W2.heap.size<W3.heap.size from by have:=HM.out.lt (b:=p7) (List.mem_cons_self ..);have:=Kk.out;omega)
  obtain ⟨c0,c1,c2⟩:=worldCells (HM.out.row HW.out)
  have Ks:=hid (refLoad10_any HM.out.ra pre hps)
  rw [HM.out.rpp] at Ks
  go_wp2_with fail
  refine Ks.out.mono ?_
  rintro e W4 ⟨hres,r3,hg4⟩
  obtain ⟨v,rfl,hver⟩:=hres.any
  rw [←Kg.out,←Zm.out] at hver
  rw [←Kg.out,←Zn.out,←Zo.out]
  rw [←Kg.out] at hg4
  have Km:=hid hver
  have hqq:=Ka.out.trans hg4.st.upd (fun k _ hk=>Kp.out.2 k hk)
  have Zb:=hid hg4.st.upd.size
  have Zp:=hid (show ∀k,r3.own k→k<wq.heap.size∨W3.heap.size≤k from fun k hk=>(hg4.st.foot k hk).imp (Kp.out.2 k) (fun e=>e))
  have hmq:=HM.out.stepR hg4
  clear HM
  have HM:=hid hmq
  clear hmq hg4
  clear Ka
  have Ka:=hid hqq
  obtain ⟨b1,e1,b2,e2,rfl,-,-⟩:=hver W4 (Upd.refl _ _)
  have heq:=Ki.out
  rw [←heq.1,←heq.2.1,←heq.2.2.1,←heq.2.2.2.1,←heq.2.2.2.2.1,←heq.2.2.2.2.2.1,←heq.2.2.2.2.2.2] at Km⊢
  clear hres hqq hver heq Ks c0 c1 c2
  go_upto_region 9 with fail
  obtain ⟨P10,hB⟩:∃O,O=Obj.cells #[.int .i64 y1,.int .i64 y2,.int .i64 y3,.int .i64 y4,.int .i64 y5,.slice b1 m e1,.slice b2 n2 e2] 25 (0,0):=⟨_,rfl⟩
  obtain ⟨W5,hW⟩:∃W,W=W4.alloc P10:=⟨_,rfl⟩
  obtain ⟨p10,hp⟩:∃p,p=W4.heap.size:=⟨_,rfl⟩
  have hmb:=HM.out.push P10
  have hub:=(Upd.refl (fun _=>False) W4).alloc P10
  rw [←hW,←hp] at hmb
  rw [←hW] at hub
  rw [hB] at hW
  rw [←hW,←hp]
  have Kt:=hid hp;have Ku:=hid hB
  clear HM hp hB hW
  have HM:=hid hmb;have HU:=hid hub
  clear hmb hub
  have hqq:=Ka.out.trans (HU.out.mono (T:=fun k=>k<wq.heap.size) (fun _ _ e=>e.elim)) (fun _ _ e=>e)
  clear Ka HF HW
  have Ka:=hid hqq
  have Zc:=hid (Kj.out.keep Ka.out (fun _ e=>e)).at
  have Zd:=hid (Km.out W5 HU.out)
  have Ze:=hid (show (p10,P10)∈[(p10,P10),(p7,P7),(fb,FB),(pw,worldO sp rp (.slice (some ⟨g,0,none⟩) NP pc))] from by simp)
  have Kv:=hid (show (p7,P7)∈[(p10,P10),(p7,P7),(fb,FB),(pw,worldO sp rp (.slice (some ⟨g,0,none⟩) NP pc))] from by simp)
  have Kw:=hid (sameVer_any Zc.out Zd.out (by have:=Kz.out;omega))
  rw [show sameVerB X X=true from sameVerB_iff.2 rfl] at Kw
  obtain ⟨⟨z0,z1,z2,z3,z4,z5,z6⟩,-,hzl⟩:=verCells ((HM.out.row Kv.out).trans (congrArg some Ke.out))
  obtain ⟨⟨u0,u1,u2,u3,u4,u5,u6⟩,-,hul⟩:=verCells ((HM.out.row Ze.out).trans (congrArg some Ku.out))
  clear hqq HU
  go_wp2_with fail
  refine Kw.out.mono ?_
  rintro e W6 ⟨rfl,hu6⟩
  have hmq:=HM.out.quiet hu6
  have hqq:=Ka.out.trans (hu6.mono (T:=fun k=>k<wq.heap.size) (fun _ _ e=>e.elim)) (fun _ _ e=>e)
  clear HM Ka z0 z1 z2 z3 z4 z5 z6 hzl u0 u1 u2 u3 u4 u5 u6 hul Kw hu6 Zc Zd
  have HM:=hid hmq;have Ka:=hid hqq
  clear hmq hqq
  have Kf:=hid (show (m:Int)≤9223372036854775807 from by
   obtain ⟨ao,cap,e,h1,h2,-⟩:=Kh.out.bat
   have:=Ki.out.1
   omega)
  by_cases hm0:m=0
  ·subst hm0
   have hm0i:¬((0:Int)<((0:Nat):Int)):=by simp
   obtain ⟨⟨z0,z1,z2,z3,z4,z5,z6⟩,-,hzl⟩:=verCells ((HM.out.row Kv.out).trans (congrArg some Ke.out))
   clear z0 z1 z2 z3 z4 z6
   go_wp2
   go_loopw [14] (fun iv wr=>iv=.int .i64 0∧wr=W6) (fun _ _=>0)
   case atStart=>exact ⟨rfl,rfl⟩
   case round=>
    obtain ⟨rfl,hwe⟩:=hrel
    obtain rfl:=hwe.symm
    have Kb:=HM
    have Kx:=hid (fun W=>lawNum_any W K (by have:=Kr.out;omega))
    go_wp2_with fail
    refine (Kx.out _).mono ?_
    rintro e W ⟨rfl,hww⟩
    obtain rfl:=hww.symm
    go_wp2
    go_ret
    refine ⟨by simp,sn,r3,?_⟩
    rw [Za.out]
    exact Kb.out.sub (fun y hy=>by simp only [List.mem_cons,List.not_mem_nil,or_false] at hy⊢;exact .inr (.inr (.inr hy)))
  ·obtain ⟨gs,cs,cur,est,hgs,hcs1,hcs2,-,-⟩:=Kh.out.resolve_left (fun e=>by
    have h1:=Ki.out.1
    rw [e.2] at h1
    exact hm0 h1)
   injection est with est1 est2 est3
   subst est1;subst est3
   clear est2
   have Kc:=hid (show wq.heap.size≤gs∧gs<W2.heap.size from ⟨Kd.out gs rfl,lt_of_heap hgs⟩)
   have hmt:=HM.out.take (b:=gs) (o:=.cells cur 5 (0,0)) (Ka.out.get hgs (fun e=>by have:=Kc.out.1;omega)) ⟨by have:=Kc.out.1;have:=Zk.out;omega,fun e=>by have:=Zl.out gs e;have:=Kc.out.1;omega,fun e=>(Zp.out gs e).elim (fun e=>by have:=Kc.out.1;omega) (fun e=>by have:=Kc.out.2;have:=Kl.out;omega),fun e=>by have:=Ky.out.1 gs e;have:=Kc.out.1;omega⟩
   have Zq:=hid (show ∀y∈[(p10,P10),(p7,P7),(fb,FB),(pw,worldO sp rp (.slice (some ⟨g,0,none⟩) NP pc))],y.1≠gs from fun y hy e=>by
    have h1:=Kc.out;have h2:=Kk.out;have h3:=Kt.out;have h4:=Kl.out
    have h5:W3.heap.size≤W4.heap.size:=Zb.out
    rcases List.mem_cons.1 hy with rfl|hy
    ·simp only at e;omega
    ·rcases List.mem_cons.1 hy with rfl|hy
     ·simp only at e;omega
     ·have:=Ky.out.2 y hy;omega)
   have hmc:m≤cur.size:=by have:=Ki.out.1;omega
   have Zf:=hid (And.intro hmt hmc)
   clear hmt hmc hgs hcs1 hcs2 HM Kh Kd
   have hms:=Kf.out
   go_wp2
   go_loopw [14] (fun iv wr=>∃k:Nat,k≤m∧iv=.int .i64 k∧∃cur,MP w wr sp rp (.slice (some ⟨g,0,none⟩) NP pc) P sn r3 L.2 ((gs,.cells cur 5 (0,0)) :: [(p10,P10),(p7,P7),(fb,FB),(pw,worldO sp rp (.slice (some ⟨g,0,none⟩) NP pc))])∧m≤cur.size) (fun iv _=>m-(intOf iv).toNat)
   case atStart=>exact ⟨0,Nat.zero_le _,rfl,cur,Zf.out⟩
   case round=>
    clear Zf
    obtain ⟨k,hk,rfl,cur,hmr,hcr⟩:=hrel
    have Kb:=hid hmr
    obtain ⟨⟨z0,z1,z2,z3,z4,z5,z6⟩,-,hzl⟩:=verCells ((Kb.out.row (List.mem_cons_of_mem _ Kv.out)).trans (congrArg some Ke.out))
    clear z0 z1 z2 z3 z4 z6
    by_cases hlt:k<m
    ·have hrow:=Kb.out.row (List.mem_cons_self ..)
     have hce:wr.cell? ⟨gs,k,none⟩=some (cur[k]'(by omega)):=by rw [cell_of_row _ gs k _ _ _ hrow];exact Array.getElem?_eq_getElem (by omega)
     have hfz:wr.frozen? ⟨gs,k,none⟩=false:=frozen_of_row _ _ _ _ _ hrow
     have hgl':gs<wr.heap.size:=lt_of_heap hrow
     have hset:=heap_setCell_at wr gs k _ _ (.int .u8 88) hrow
     have Zg:=hid (Kb.out.set (R':=[(p10,P10),(p7,P7),(fb,FB),(pw,worldO sp rp (.slice (some ⟨g,0,none⟩) NP pc))]) (List.mem_cons_self ..) (Upd.cell_only wr gs k (.int .u8 88)) hset (fun y hy=>⟨List.mem_cons_of_mem _ hy,Zq.out y hy⟩))
     have hki:(k:Int)<(m:Int):=by omega
     generalize cur[k]'(by omega)=ck at hce
     clear hrow hset hmr
     go_wp2
     go_roundw
     case rel=>exact ⟨k+1,by omega,by go_num,_,Zg.out,by simpa using hcr⟩
     case measure=>simp [intOf];omega
    ·obtain rfl:k=m:=by omega
     clear hmr
     have Kn:=Kb.out.sub (R':=[(p10,P10),(p7,P7),(fb,FB),(pw,worldO sp rp (.slice (some ⟨g,0,none⟩) NP pc))]) (fun y hy=>List.mem_cons_of_mem _ hy)
     clear Kb
     have Kb:=hid Kn
     clear Kn
     have Kx:=hid (fun W=>lawNum_any W K (by have:=Kr.out;omega))
     go_wp2_with fail
     refine (Kx.out _).mono ?_
     rintro e W ⟨rfl,hww⟩
     obtain rfl:=hww.symm
     go_wp2
     go_ret
     refine ⟨by simp,sn,r3,?_⟩
     rw [Za.out]
     exact Kb.out.sub (fun y hy=>by simp only [List.mem_cons,List.not_mem_nil,or_false] at hy⊢;exact .inr (.inr (.inr hy)))
end Go.Proofs.YtgaidmohdhaonaaGreatDoor
