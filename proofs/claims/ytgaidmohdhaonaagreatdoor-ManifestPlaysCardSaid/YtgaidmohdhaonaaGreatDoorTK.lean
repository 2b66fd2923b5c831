/-
  ManifestPlays, walked: world, every call, the whole.
-/
import Derived.Test.YtgaidmohdhaonaaGreatDoorTG
import Derived.Test.YtgaidmohdhaonaaGreatDoorTH
import Derived.Test.YtgaidmohdhaonaaGreatDoorTI
import Derived.Test.YtgaidmohdhaonaaGreatDoorTJ
set_option linter.unusedVariables false
set_option linter.unusedSimpArgs false
set_option linter.unnecessarySimpa false
set_option linter.unusedSectionVars false
set_option maxRecDepth 100000
set_option maxHeartbeats 12800000
namespace Go.Proofs.YtgaidmohdhaonaaGreatDoor
open Go Go.RowKit
theorem plays_any {w W0:World} {sp rp pw:Nat} {pv:Value} {P:List ByteArray} {s:DS} {r:RS} {o:OpT} {q:OpQ} (hT:TabIn w) (hT2:TabP w) (hm:MP w W0 sp rp pv P s r s.abs [(pw,worldO sp rp pv)]) (hPl:1≤P.length∧P.length≤3) (hPs:∀p∈P,p.size≤140737488355328) (hq:OpAt w o q) (hin:OpIn o) :
  Calls Tryz.prog 51 #[.pointer (some ⟨pw,0,none⟩),.agg #[.int .i64 o.kind,.int .i64 o.obj,.int .i64 o.v.gen,.int .i64 o.v.flushed,.int .i64 o.v.next,.int .i64 o.v.low,.int .i64 o.v.clock,.slice q.s1 o.v.state.length q.d1,.slice q.s2 o.v.runs.length q.d2,.int .i64 o.n,.string o.name,.slice q.s3 o.b.length q.d3,.slice q.s4 o.cuts.length q.d4]] W0 fun e W'=>e=.returned (.bool true)∧∃s2 r2,MP w W' sp rp pv P s2 r2 s2.abs [(pw,worldO sp rp pv)]:=by
 by_cases hk:¬(1≤o.kind∧o.kind≤8)
 ·exact plays_a hT hT2 hm hPl hPs hq hin (.inl hk)
 ·have hk2:o.kind=1∨(o.kind=2∨o.kind=4)∨(o.kind=5∨o.kind=6∨o.kind=7)∨o.kind=8∨o.kind=3:=by omega
  rcases hk2 with h|h|h|h
  ·rw [h]
   exact plays_load hT hT2 hm hPl hPs hq hin
  ·exact plays_a hT hT2 hm hPl hPs hq hin (.inr h)
  ·exact plays_b hT hT2 hm hPl hPs hq hin h
  ·exact plays_c hT hT2 hm hPl hPs hq hin h
theorem MP.grow {w W:World} {sp rp:Nat} {ao:Option Addr} {n c:Nat} {P:List ByteArray} {s:DS} {r:RS} {a:DiskA} (h:MP w W sp rp (.slice ao n c) P s r a []) (hn:n=P.length) (f:ByteArray) (hl:P.length≤1000000) :
  ∃ao' c' W',(Builtin.append_ #[73,73] 73 #[.slice ao n c,.slice (some ⟨W.heap.size,0,none⟩) 1 1]).run Tryz.prog (W.alloc (.cells #[.string f] 9))=.ok (.slice ao' (n+1) c') W'∧MP w W' sp rp (.slice ao' (n+1) c') (P ++ [f]) s r a []:=by
 obtain ⟨ao',c',W',hrun,hs,hu,ho⟩:=h.ps.push hn h.upd.size f hl
 refine ⟨ao',c',W',hrun,h.sin.upd hu (fun k hk e=>(h.pn k e).1 hk),h.spp,h.ra.upd hu (fun k hk e=>(h.pn k e).2 hk),h.rpp,h.low,h.lowr,h.ap,h.upd.trans hu (fun k hk e=>by have:=h.ps.2 k e;omega),fun x hx=>(by cases hx),hs,fun b e=>?_⟩
 rcases ho b e with e|e
 ·exact h.pn b e
 ·exact ⟨fun e2=>by have:=h.sin.lt b e2;omega,fun e2=>by have:=h.ra.ins.lt e2;omega⟩
abbrev t0B:ByteArray:={ data:=#[116,48,46] }
abbrev t1B:ByteArray:={ data:=#[116,49,46] }
theorem world_any {w:World} (room:Nat) (hroom:room≤67108864) {vp:Value} {pl:List ByteArray} (hp:StrsAt w vp pl) :
  Calls Tryz.prog 50 #[.int .i64 room,vp] w fun e W'=>∃pw sp rp pv P s r,e=.returned (.pointer (some ⟨pw,0,none⟩))∧MP w W' sp rp pv P s r s.abs [(pw,worldO sp rp pv)]∧P=t0B :: t1B :: pl.take 1:=by
 have HP:=hid hp
 obtain ⟨pa,pc,rfl,hpc1,hpc2,-⟩:=hp
 have Kb:=hid (new_yes w room hroom)
 obtain ⟨n,hn⟩:∃n,n=pl.length:=⟨_,rfl⟩
 rw [←hn] at hpc1 HP⊢
 have HN:=hid hn
 clear hn
 go_enter Tryz.func50,Tryz.ntmps50
 go_wp2_with fail
 refine Kb.out.mono ?_
 rintro e W1 ⟨s,rfl,hs,habs,hlow,hu1⟩
 have HS:=hid hs;have Kd:=hid hu1;have Ki:=hid habs;have Ke:=hid hlow
 have Kf:=hid (refNew_yes W1 room hroom)
 clear hs hu1 habs hlow Kb
 go_wp2_with fail
 refine Kf.out.mono ?_
 rintro e W2 ⟨r,rfl,hr,hroom2,hF,hoff,harm,hcnt,hbase,hown,hu2⟩
 have Kj:=hid (show (s.p:Nat)=s.p∧r.p=r.p from ⟨rfl,rfl⟩)
 have hm:MP w W2 s.p r.p (.slice none 0 0) [] s r s.abs []:=by
  refine ⟨HS.out.upd hu2 (fun _ _ e=>e),rfl,⟨hr,?_,?_⟩,rfl,Ke.out,fun k hk=>Nat.le_trans Kd.out.size (hown k hk),fun k hk hk2=>?_,Kd.out.trans hu2 (fun _ _ e=>e),fun x hx=>(by cases hx),Strs.nil _ _,fun b e=>(by cases e)⟩
  ·unfold Sorted
   rw [hF]
   exact List.Pairwise.nil
  ·rw [Ki.out]
   refine ⟨hroom2,?_,hoff,?_⟩
   ·show (r.F.map FV.abs).Perm _
    rw [hF]
    exact .refl _
   ·exact harm
  ·have h1:=HS.out.lt k hk
   have h2:=hown k hk2
   omega
 obtain ⟨sp,hsp⟩:∃p,p=s.p:=⟨_,rfl⟩
 obtain ⟨rp,hrp⟩:∃p,p=r.p:=⟨_,rfl⟩
 rw [←hsp,←hrp] at hm⊢
 have Kc:=hid hm
 clear hm hr hroom2 hF hoff harm hcnt hbase hown hu2 hsp hrp Kj Kf
 have Kk:=hid (fun W=>lawNum_any W 0 (by omega))
 go_wp2_with fail
 refine (Kk.out _).mono ?_
 rintro e W ⟨rfl,hww⟩
 obtain rfl:=hww.symm
 go_upto_region 6 with fail
 have hst:MP w (W2.alloc (.cells #[.string t0B,.string t1B] 9)) sp rp (.slice (some ⟨W2.heap.size,0,none⟩) 2 2) [t0B,t1B] s r s.abs []:=by
  have h1:=Kc.out.quiet ((Upd.refl (fun _=>False) W2).alloc (.cells #[.string t0B,.string t1B] 9))
  refine ⟨h1.sin,h1.spp,h1.ra,h1.rpp,h1.low,h1.lowr,h1.ap,h1.upd,fun x hx=>(by cases hx),⟨⟨rfl,.inr ⟨W2.heap.size,2,_,rfl,heap_alloc_new W2 _,Nat.le_refl 2,by decide,by decide,rfl⟩⟩,fun b e=>?_⟩,fun b e=>?_⟩
  ·simp only [Value.ownBlock,Option.some.injEq] at e
   subst e
   exact Kc.out.upd.size
  ·simp only [Value.ownBlock,Option.some.injEq] at e
   subst e
   obtain ⟨f1,f2,-⟩:=Kc.out.fresh (Nat.le_refl _)
   exact ⟨f1,f2⟩
 have Ka:=hid hst
 obtain ⟨g5,hg5⟩:∃g,g=W2.heap.size:=⟨_,rfl⟩
 rw [←hg5] at Ka⊢
 generalize W2.alloc (.cells #[.string { data:=#[116,48,46] },.string { data:=#[116,49,46] }] 9)=W3 at Ka⊢
 clear hst hg5
 go_wp2
 go_loopw [9,10] (fun lv iv wr=>∃k:Nat,k≤1∧k≤n∧iv=.int .i64 k∧∃(ao:Option Addr) (c:Nat),lv=.slice ao (2+k) c∧MP w wr sp rp (.slice ao (2+k) c) ([t0B,t1B]++pl.take k) s r s.abs []) (fun _ iv _=>1-(intOf iv).toNat)
 case atStart=>exact ⟨0,by omega,by omega,rfl,some ⟨g5,0,none⟩,2,rfl,by rw [List.take_zero,List.append_nil];exact Ka.out⟩
 case round=>
  clear Ka
  obtain ⟨k,hk1,hkn,rfl,ao,c,rfl,hm⟩:=hrel
  have HM:=hid hm
  by_cases hlt:k<n∧k<1
  ·obtain ⟨hlt1,hlt2⟩:=hlt
   have hkp:k<pl.length:=by have:=HN.out;omega
   obtain ⟨g,o,rfl,hg,hc⟩:=StrsAt.get (by have h:=HP.out;exact h) hm.upd hkp
   obtain ⟨f,hf⟩:∃f,f=pl[k]:=⟨_,rfl⟩
   rw [←hf] at hc
   have Kl:=hid (show pl.take (k+1)=pl.take k ++ [f] from by rw [hf];exact List.take_succ_eq_append_getElem hkp)
   obtain ⟨ao',c',W',hrun,hm'⟩:=hm.grow (by simp;omega) f (by simp;omega)
   have Kg:=hid hrun;have Km:=hid hm'
   have hki:(k:Int)<(n:Int):=by omega
   have hk1i:(k:Int)<1:=by omega
   have hkc:k<pc:=by omega
   clear hm hf hkp hrun hm'
   go_wp2_with (at_builtin;refine wpList_append_run rfl _ _ _ rfl rfl rfl Kg.out ?_)
   go_roundw
   case rel=>exact ⟨k+1,by omega,by omega,by go_num,ao',c',by congr 1,by rw [Kl.out,←List.append_assoc];exact Km.out⟩
   case measure=>simp [intOf];omega
  ·have HE:=hid (show pl.take k=pl.take 1 from by
    have:=HN.out
    by_cases h1:k=1
    ·rw [h1]
    ·have hk0:k=0:=by omega
     have hp0:pl=[]:=List.eq_nil_of_length_eq_zero (by omega)
     rw [hp0];simp)
   have Kh:=hid (HM.out.push (.cells #[.pointer (some ⟨sp,0,none⟩),.pointer (some ⟨rp,0,none⟩),.slice ao (2+k) c] 114))
   by_cases hkn':k<n
   ·have hk1':k=1:=by omega
    have hki:(k:Int)<(n:Int):=by omega
    have hk1i:¬(k:Int)<1:=by omega
    clear hm hlt hk1'
    go_wp2
    go_ret
    exact ⟨wr.heap.size,rfl,sp,rp,_,s,r,by have h:=Kh.out;rw [HE.out] at h;exact h⟩
   ·have hki:¬(k:Int)<(n:Int):=by omega
    clear hm hlt
    go_wp2
    go_ret
    exact ⟨wr.heap.size,rfl,sp,rp,_,s,r,by have h:=Kh.out;rw [HE.out] at h;exact h⟩
theorem manifestPlays_walk {w:World} {room:Int} {vp vs:Value} {pl:List ByteArray} {sc:List OpT} (hT:TabIn w) (hT2:TabP w) (hroom:I64 room) (hp:StrsAt w vp pl) (hps:∀p∈pl,p.size≤140737488355328) (hs:OpsAtT w vs sc) (hin:∀o∈sc,OpIn o) :
  Calls Tryz.prog 9 #[.int .i64 room,vp,vs] w fun e w'=>e=.returned (.bool true)∧Upd (fun _=>False) w w':=by
 have HT:=hid hT;have Kr:=hid hT2;have Ks:=hid hps;have Kt:=hid hin;have HP:=hid hp
 obtain ⟨sa,scp,rfl,hsc1,hsc2,hsat⟩:=hs
 have Kh:=hid hsat
 obtain ⟨pa,pc,rfl,-,-,-⟩:=hp
 obtain ⟨N,hN⟩:∃n,n=sc.length:=⟨_,rfl⟩
 have HN:=hid hN
 rw [←hN] at hsc1⊢
 have Ke:=hid (whole_any room 64 1048576 (by decide) (by decide) (by decide) w)
 obtain ⟨R,hR⟩:∃R:Nat,(R:Int)=64+room%(1048576-64+1):=⟨(64+room%(1048576-64+1)).toNat,by
  have h1:0≤room%(1048576-64+1):=Int.emod_nonneg _ (by decide)
  rw [Int.toNat_of_nonneg (by omega)]⟩
 have hRb:R≤67108864:=by
  have h2:room%(1048576-64+1)<(1048576-64+1):=Int.emod_lt_of_pos _ (by decide)
  omega
 rw [←hR] at Ke
 have Ki:=hid (world_any R hRb HP.out)
 clear hT hT2 hps hin hsat hN hR hRb hroom
 go_enter Tryz.func9,Tryz.ntmps9
 go_wp2_with fail
 refine Ke.out.mono ?_
 rintro e W ⟨rfl,hww⟩
 obtain rfl:=hww.symm
 go_wp2_with fail
 refine Ki.out.mono ?_
 rintro e W1 ⟨pw,sp,rp,pv,P,s,r,rfl,hm,hP⟩
 have HM:=hid hm
 have Ku:=hid (show 1≤P.length∧P.length≤3 from by rw [hP];simp;omega)
 have Kv:=hid (show ∀p∈P,p.size≤140737488355328 from by
  rw [hP]
  intro p hp
  simp only [List.mem_cons] at hp
  rcases hp with rfl|rfl|hp
  ·decide
  ·decide
  ·exact Ks.out p (List.mem_of_mem_take hp))
 have Kc:=hid (started_any (HT.out.keep hm.upd))
 clear hm hP Ke Ki
 go_wp2_with fail
 refine Kc.out.mono ?_
 rintro e W2 ⟨rfl,hu2⟩
 have hmq:=HM.out.quiet hu2
 clear HM
 have HM:=hid hmq
 clear hmq
 clear hu2 Kc
 go_wp2
 go_loopw [8] (fun iv wr=>∃k:Nat,k≤N∧k≤200∧iv=.int .i64 k∧∃s r,MP w wr sp rp pv P s r s.abs [(pw,worldO sp rp pv)]) (fun iv _=>200-(intOf iv).toNat)
 case atStart=>exact ⟨0,by omega,by omega,rfl,s,r,HM.out⟩
 case round=>
  clear HM
  clear s r
  obtain ⟨k,hkn,hk2,rfl,s,r,hm⟩:=hrel
  have HM:=hid hm
  have HW:=hid (show (pw,worldO sp rp pv)∈[(pw,worldO sp rp pv)] from List.mem_singleton.2 rfl)
  by_cases hlt:k<N∧k<200
  ·obtain ⟨hlt1,hlt2⟩:=hlt
   have hks:k<sc.length:=by have:=HN.out;omega
   obtain ⟨b,of,q,rfl,hb,hcs,hq⟩:=Kh.out k hks
   have Kd:=hid (Kt.out _ (List.getElem_mem hks))
   obtain ⟨o,ho⟩:∃o,o=sc[k]:=⟨_,rfl⟩
   rw [←ho] at hcs hq Kd
   have HQ:=hid hq
   have Ka:=hid hcs
   clear ho
   have d0:wr.cell? ⟨b,of+k*13,none⟩=some (.int .i64 o.kind):=hm.upd.cell hb (Ka.out 0 (by omega))
   have d1:wr.cell? ⟨b,of+k*13+1,none⟩=some (.int .i64 o.obj):=hm.upd.cell hb (Ka.out 1 (by omega))
   have d2:wr.cell? ⟨b,of+k*13+2,none⟩=some (.int .i64 o.v.gen):=hm.upd.cell hb (Ka.out 2 (by omega))
   have d3:wr.cell? ⟨b,of+k*13+3,none⟩=some (.int .i64 o.v.flushed):=hm.upd.cell hb (Ka.out 3 (by omega))
   have d4:wr.cell? ⟨b,of+k*13+4,none⟩=some (.int .i64 o.v.next):=hm.upd.cell hb (Ka.out 4 (by omega))
   have d5:wr.cell? ⟨b,of+k*13+5,none⟩=some (.int .i64 o.v.low):=hm.upd.cell hb (Ka.out 5 (by omega))
   have d6:wr.cell? ⟨b,of+k*13+6,none⟩=some (.int .i64 o.v.clock):=hm.upd.cell hb (Ka.out 6 (by omega))
   have d7:wr.cell? ⟨b,of+k*13+7,none⟩=some (.slice q.s1 o.v.state.length q.d1):=hm.upd.cell hb (Ka.out 7 (by omega))
   have d8:wr.cell? ⟨b,of+k*13+8,none⟩=some (.slice q.s2 o.v.runs.length q.d2):=hm.upd.cell hb (Ka.out 8 (by omega))
   have d9:wr.cell? ⟨b,of+k*13+9,none⟩=some (.int .i64 o.n):=hm.upd.cell hb (Ka.out 9 (by omega))
   have d10:wr.cell? ⟨b,of+k*13+10,none⟩=some (.string o.name):=hm.upd.cell hb (Ka.out 10 (by omega))
   have d11:wr.cell? ⟨b,of+k*13+11,none⟩=some (.slice q.s3 o.b.length q.d3):=hm.upd.cell hb (Ka.out 11 (by omega))
   have d12:wr.cell? ⟨b,of+k*13+12,none⟩=some (.slice q.s4 o.cuts.length q.d4):=hm.upd.cell hb (Ka.out 12 (by omega))
   have hki:(k:Int)<(N:Int):=by omega
   have hk2i:(k:Int)<200:=by omega
   have hkc:k<scp:=by omega
   have hbw:b<wr.heap.size:=Nat.lt_of_lt_of_le hb hm.upd.size
   have Kj:=hid (plays_any HT.out Kr.out HM.out Ku.out Kv.out HQ.out Kd.out)
   clear hm hks hq hcs
   go_wp2_with fail
   refine Kj.out.mono ?_
   rintro e W3 ⟨rfl,s3,r3,hm3⟩
   clear d0 d1 d2 d3 d4 d5 d6 d7 d8 d9 d10 d11 d12 Kj HM
   clear s r
   have hmd:=hm3.quiet ((Upd.refl (fun _=>False) W3).drew)
   have HM:=hid hmd
   clear hm3 hmd
   have Kf:=hid (files_any HM.out.sin)
   rw [HM.out.spp] at Kf
   have Kw:=hid (show r3.F.map FV.abs=fileList s3 from sorted_fileList (r:={ r3 with cnt:=s3.cnt }) HM.out.sin ⟨HM.out.ra.al.symm.cap,HM.out.ra.al.symm.files,HM.out.ra.al.symm.down,HM.out.ra.al.symm.armed,rfl⟩ HM.out.ra.so)
   go_upto_region 8 with fail
   have hHeld:(fun V=>V.cell? ⟨pw,0,none⟩=some (.pointer (some ⟨sp,0,none⟩))∧V.cell? ⟨pw,1,none⟩=some (.pointer (some ⟨rp,0,none⟩))) W3.drew:=⟨(worldCells (HM.out.row HW.out)).1,(worldCells (HM.out.row HW.out)).2.1⟩
   refine wp_region_l (fun V=>V.cell? ⟨pw,0,none⟩=some (.pointer (some ⟨sp,0,none⟩))∧V.cell? ⟨pw,1,none⟩=some (.pointer (some ⟨rp,0,none⟩))) 15 16 rfl (by kernel_rfl) ?_
   refine' tk 0 [1,2,3,4,5,6,7,8,9,10,11,12,13,14,15] (y:=?y8_0) (r:=?r8_0)
   case y8_0=>(intro wS hSw;go_simp;(try with_reducible rfl))
   (try simp only [Act.put,sA,sZ,sS])
   refine' tk 1 [2,3,4,5,6,7,8,9,10,11,12,13,14,15] (y:=?y8_1) (r:=?r8_1)
   case y8_1=>(intro wS hSw;go_simp;(try with_reducible rfl))
   (try simp only [Act.put,sA,sZ,sS])
   refine' tk 2 [15] (y:=?y8_2) (r:=?r8_2)
   case y8_2=>(intro wS hSw;go_simp;(try with_reducible rfl))
   (try simp only [Act.put,sA,sZ,sS])
   refine' tk 3 [4,5,6,7,12,13,14,15] (y:=?y8_3) (r:=?r8_3)
   case y8_3=>(intro wS hSw;go_simp;(try with_reducible rfl))
   (try simp only [Act.put,sA,sZ,sS])
   refine' tk 4 [5,6,7,12,13,14,15] (y:=?y8_4) (r:=?r8_4)
   case y8_4=>(intro wS hSw;go_simp;(try with_reducible rfl))
   (try simp only [Act.put,sA,sZ,sS])
   refine' tk 5 [6,7,12,13,14,15] (y:=?y8_5) (r:=?r8_5)
   case y8_5=>(intro wS hSw;go_simp;(try with_reducible rfl))
   (try simp only [Act.put,sA,sZ,sS])
   refine' tk 6 [7,12,13,14,15] (y:=?y8_6) (r:=?r8_6)
   case y8_6=>(intro wS hSw;obtain ⟨g0,g1⟩:=hSw;go_simp;(try with_reducible rfl))
   (try simp only [Act.put,sA,sZ,sS])
   refine' tk 8 [9,10,11,12,13,14,15] (y:=?y8_8) (r:=?r8_8)
   case y8_8=>(intro wS hSw;go_simp;(try with_reducible rfl))
   (try simp only [Act.put,sA,sZ,sS])
   refine' tk 9 [10,11,12,13,14,15] (y:=?y8_9) (r:=?r8_9)
   case y8_9=>(intro wS hSw;go_simp;(try with_reducible rfl))
   (try simp only [Act.put,sA,sZ,sS])
   refine' tk 10 [11,12,13,14,15] (y:=?y8_10) (r:=?r8_10)
   case y8_10=>(intro wS hSw;go_simp;(try with_reducible rfl))
   (try simp only [Act.put,sA,sZ,sS])
   refine' tk 11 [12,13,14,15] (y:=?y8_11) (r:=?r8_11)
   case y8_11=>(intro wS hSw;obtain ⟨g0,g1⟩:=hSw;go_simp;(try with_reducible rfl))
   (try simp only [Act.put,sA,sZ,sS])
   refine wpAnyL_one 7 rfl (by kernel_rfl) (fun K hK=>?_)
   go_simp
   go_at_call 53
   refine Kf.out.mono ?_
   rintro e W4 ⟨v4,l4,rfl,hf4,ha4,hu4⟩
   have hmq:=HM.out.quiet hu4
   clear HM
   have HM:=hid hmq
   clear hmq
   have Kk:=hid hf4;have Kl:=hid ha4
   clear hf4 ha4 hu4 Kf
   have Kg:=hid (refFiles_any HM.out.ra.ins)
   rw [HM.out.rpp] at Kg
   have hHeld4:(fun V=>V.cell? ⟨pw,0,none⟩=some (.pointer (some ⟨sp,0,none⟩))∧V.cell? ⟨pw,1,none⟩=some (.pointer (some ⟨rp,0,none⟩))) W4:=⟨(worldCells (HM.out.row HW.out)).1,(worldCells (HM.out.row HW.out)).2.1⟩
   refine hK.out _ _ (fun _=>hHeld4) ?_
   clear hK K
   (try simp only [Act.put,sA,sZ,sS])
   refine wpAnyL_one 12 rfl (by kernel_rfl) (fun K hK=>?_)
   go_simp
   go_at_call 54
   refine Kg.out.mono ?_
   rintro e W5 ⟨v5,l5,rfl,hf5,ha5,hu5⟩
   have hmq:=HM.out.quiet hu5
   clear HM
   have HM:=hid hmq
   clear hmq
   have hf4:=Kk.out.keep hu5 (fun _ _ e=>e)
   have Km:=hid (sameFiles10_any hf4 hf5)
   have Kx:=hid (show l4.map FV.abs=l5.map FV.abs from by rw [Kl.out,ha5,Kw.out])
   clear hf4 hf5 ha5 hu5 Kk Kl Kg
   have hHeld5:(fun V=>V.cell? ⟨pw,0,none⟩=some (.pointer (some ⟨sp,0,none⟩))∧V.cell? ⟨pw,1,none⟩=some (.pointer (some ⟨rp,0,none⟩))) W5:=⟨(worldCells (HM.out.row HW.out)).1,(worldCells (HM.out.row HW.out)).2.1⟩
   refine hK.out _ _ (fun _=>hHeld5) ?_
   clear hK K
   (try simp only [Act.put,sA,sZ,sS])
   refine wpAnyL_one 13 rfl (by kernel_rfl) (fun K hK=>?_)
   go_simp
   go_at_call 52
   refine Km.out.mono ?_
   rintro e W6 ⟨bo,rfl,hbo,hu6⟩
   obtain rfl:=hbo.2 Kx.out
   have hmq:=HM.out.quiet hu6
   clear HM
   have HM:=hid hmq
   clear hmq
   clear hbo hu6 Km
   have hHeld6:(fun V=>V.cell? ⟨pw,0,none⟩=some (.pointer (some ⟨sp,0,none⟩))∧V.cell? ⟨pw,1,none⟩=some (.pointer (some ⟨rp,0,none⟩))) W6:=⟨(worldCells (HM.out.row HW.out)).1,(worldCells (HM.out.row HW.out)).2.1⟩
   refine hK.out _ _ (fun _=>hHeld6) ?_
   clear hK K
   (try simp only [Act.put,sA,sZ,sS])
   refine' tk 14 [15] (y:=?y8_14) (r:=?r8_14)
   case y8_14=>(intro wS hSw;go_simp;(try with_reducible rfl))
   (try simp only [Act.put,sA,sZ,sS])
   refine wpAnyL_one 15 rfl (by kernel_rfl) (fun K hK=>?_)
   go_simp
   refine hK.out _ _ (fun h=>absurd rfl h) ?_
   clear hK K
   (try simp only [Act.put,sA,sZ,sS])
   refine wpAnyL_done (by kernel_rfl) ?_ _
   go_wp2
   go_roundw
   case rel=>exact ⟨k+1,by omega,by omega,by go_num,s3,r3,HM.out⟩
   case measure=>simp [intOf];omega
  ·have Ky:=hid hm.upd
   have hno:¬(k:Int)<(N:Int)∨¬(k:Int)<200:=by omega
   clear HM hm
   go_upto_region 5 with fail
   go_cut [34] (fun bv wx=>bv=.bool false∧wx=wr)
   case first=>
    by_cases h1:(k:Int)<(N:Int)
    ·have h2:¬(k:Int)<200:=by omega
     go_wp2
     go_meet
     exact ⟨rfl,rfl⟩
    ·go_wp2
     go_meet
     exact ⟨rfl,rfl⟩
   case rest=>
    obtain ⟨rfl,hww⟩:=hcut
    obtain rfl:=hww.symm
    clear hww hno
    go_wp2_with fail
    refine (loadNil_any _ _).mono ?_
    rintro e W7 ⟨rfl,hu7⟩
    have Kz:=hid (Ky.out.trans hu7 (fun _ _ e=>e))
    clear hu7
    go_wp2_with fail
    refine (lawFirst_any _).mono ?_
    rintro e W8 ⟨rfl,hu8⟩
    have Za:=hid ((Kz.out.alloc _).trans hu8 (fun _ _ e=>e))
    clear hu8
    go_wp2_with fail
    refine (sweepNil_any _ _ (firstAt _)).mono ?_
    rintro e W9 ⟨rfl,hu9⟩
    have Zb:=hid (Za.out.trans hu9 (fun _ _ e=>e))
    clear hu9
    go_wp2_with fail
    refine (sweepNil_any _ _ (zeroAtD _)).mono ?_
    rintro e W10 ⟨rfl,hu10⟩
    have Kn:=hid (Zb.out.trans hu10 (fun _ _ e=>e))
    clear hu10
    have Kb:=hid (fun W=>lawNum_any W 1 (by omega))
    go_wp2_with fail
    refine (Kb.out _).mono ?_
    rintro e W ⟨rfl,hww⟩
    obtain rfl:=hww.symm
    go_wp2_with fail
    refine (Kb.out _).mono ?_
    rintro e W ⟨rfl,hww⟩
    obtain rfl:=hww.symm
    go_wp2_with fail
    refine (swapNil_any _ _ (zeroAtD _)).mono ?_
    rintro e W11 ⟨rfl,hu11⟩
    have Ko:=hid (Kn.out.trans hu11 (fun _ _ e=>e))
    clear hu11
    go_wp2_with fail
    refine (Kb.out _).mono ?_
    rintro e W ⟨rfl,hww⟩
    obtain rfl:=hww.symm
    go_wp2_with fail
    refine (Kb.out _).mono ?_
    rintro e W ⟨rfl,hww⟩
    obtain rfl:=hww.symm
    go_wp2_with fail
    refine (lawFirst_any _).mono ?_
    rintro e W12 ⟨rfl,hu12⟩
    have Kp:=hid (Ko.out.trans hu12 (fun _ _ e=>e))
    clear hu12
    go_wp2_with fail
    refine (swapNil_any _ _ (firstAt _)).mono ?_
    rintro e W13 ⟨rfl,hu13⟩
    have Kq:=hid (Kp.out.trans hu13 (fun _ _ e=>e))
    clear hu13
    go_wp2_with fail
    refine (Kb.out _).mono ?_
    rintro e W ⟨rfl,hww⟩
    obtain rfl:=hww.symm
    go_wp2
    go_ret
    exact ⟨rfl,Kq.out⟩
end Go.Proofs.YtgaidmohdhaonaaGreatDoor
