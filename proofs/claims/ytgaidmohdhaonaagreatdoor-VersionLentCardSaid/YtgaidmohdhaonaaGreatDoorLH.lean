/-
  VersionLent, walked.
-/
import Derived.Test.YtgaidmohdhaonaaGreatDoorLG
import Derived.Test.YtgaidmohdhaonaaGreatDoorLE
import Derived.Test.YtgaidmohdhaonaaGreatDoorSB
import Derived.Test.YtgaidmohdhaonaaGreatDoorYT
set_option linter.unusedVariables false
set_option linter.unusedSimpArgs false
set_option linter.unnecessarySimpa false
set_option linter.unusedSectionVars false
set_option maxRecDepth 100000
set_option maxHeartbeats 25600000
namespace Go.Proofs.YtgaidmohdhaonaaGreatDoor
open Go Go.RowKit
theorem lent_lim {x:VerA} (h:VerIn x):∀r∈x.runs,r.first.length≤140737488351232∧r.last.length≤140737488351232:=fun r hr=>by
 have h:=h.2.2.2.2.2.2.2 r hr
 exact ⟨h.2.2.2.2.2.2.1,h.2.2.2.2.2.2.2⟩
theorem followA_in {x:VerA} (h:VerIn x):VerIn (followA x 1):=by
 unfold followA
 split
 ·obtain ⟨-,h2⟩:=h
  exact ⟨⟨show (-9223372036854775808:Int)≤1 by decide,show (1:Int)≤9223372036854775807 by decide⟩,h2⟩
 ·refine ⟨⟨by decide,by decide⟩,⟨by decide,by decide⟩,⟨by decide,by decide⟩,⟨by decide,by decide⟩,⟨by decide,by decide⟩,by decide,by decide,fun r hr=>by cases hr⟩
theorem lent_runs {x:VerA} (h:okA x=true):x.runs.length≤140737488351232:=by
 unfold okA at h
 rw [Bool.and_eq_true] at h
 have hh:=h.1
 unfold headA ins at hh
 simp only [Bool.and_eq_true,decide_eq_true_eq] at hh
 omega
theorem lent_state {x:VerA} (h:okA x=true):x.state.length≤1000000000:=by
 unfold okA at h
 rw [Bool.and_eq_true] at h
 have hh:=h.1
 unfold headA ins at hh
 simp only [Bool.and_eq_true,decide_eq_true_eq] at hh
 omega
theorem lent_few {x:VerA} (h:okA x=true):x.runs.length≤64:=by
 unfold okA at h
 rw [Bool.and_eq_true] at h
 have hh:=h.1
 unfold headA ins at hh
 simp only [Bool.and_eq_true,decide_eq_true_eq] at hh
 omega
theorem lent_keys {x:VerA} (h:okA x=true) (r:MetaA) (hr:r∈x.runs):r.first.length≤1000000000∧r.last.length≤1000000000:=by
 have h1:=okA_fits h hr
 unfold fitsA at h1
 simp only [Bool.and_eq_true] at h1
 have h2:=isKeyB_len h1.2.1
 have h3:=isKeyB_len h1.2.2.1
 omega
theorem lent_metas {x:VerA} (h:okA x=true) (hin:VerIn x) (L:List MV) (hL:x.runs=L.map MV.m):VerIn (verM L)∧L.length≤1000∧∀y∈L,y.m.first.length≤1000000000∧y.m.last.length≤1000000000:=by
 have hf:=lent_few h
 have hl:L.length=x.runs.length:=by rw [hL];simp
 have z0:I64 0:=⟨by decide,by decide⟩
 refine ⟨⟨z0,z0,z0,z0,z0,Nat.zero_le _,?_,?_⟩,by omega,fun y hy=>?_⟩
 ·show (L.map MV.m).length*96≤_
  rw [List.length_map]
  omega
 ·show ∀r∈L.map MV.m,MetaIn r
  rw [←hL]
  exact hin.2.2.2.2.2.2.2
 ·have hm:y.m∈x.runs:=by rw [hL];exact List.mem_map_of_mem hy
  exact lent_keys h y.m hm
theorem two_cells {W:World} {tb:Nat} {c0 c1 c2 c3 c4 c5 c6 c7 c8 c9 c10 c11 c12 c13:Value} (h:W.heap[tb]? = some (.cells #[c0,c1,c2,c3,c4,c5,c6,c7,c8,c9,c10,c11,c12,c13] 87 (0,0))) (i:Nat) (hi:i<2) :
  ∃z0 z1 z2 z3 z4 z5 z6,((i=0∧[z0,z1,z2,z3,z4,z5,z6]=[c0,c1,c2,c3,c4,c5,c6])∨(i=1∧[z0,z1,z2,z3,z4,z5,z6]=[c7,c8,c9,c10,c11,c12,c13]))∧
   W.cell? ⟨tb,i*7,none⟩=some z0∧W.cell? ⟨tb,i*7+1,none⟩=some z1∧W.cell? ⟨tb,i*7+2,none⟩=some z2∧W.cell? ⟨tb,i*7+3,none⟩=some z3∧W.cell? ⟨tb,i*7+4,none⟩=some z4∧W.cell? ⟨tb,i*7+5,none⟩=some z5∧W.cell? ⟨tb,i*7+6,none⟩=some z6:=by
 rcases (show i=0∨i=1 from by omega) with rfl|rfl
 ·exact ⟨c0,c1,c2,c3,c4,c5,c6,.inl ⟨rfl,rfl⟩,cell_of_row _ _ _ _ _ _ h,cell_of_row _ _ _ _ _ _ h,cell_of_row _ _ _ _ _ _ h,cell_of_row _ _ _ _ _ _ h,cell_of_row _ _ _ _ _ _ h,cell_of_row _ _ _ _ _ _ h,cell_of_row _ _ _ _ _ _ h⟩
 ·exact ⟨c7,c8,c9,c10,c11,c12,c13,.inr ⟨rfl,rfl⟩,cell_of_row _ _ _ _ _ _ h,cell_of_row _ _ _ _ _ _ h,cell_of_row _ _ _ _ _ _ h,cell_of_row _ _ _ _ _ _ h,cell_of_row _ _ _ _ _ _ h,cell_of_row _ _ _ _ _ _ h,cell_of_row _ _ _ _ _ _ h⟩
theorem versionLent_walk {W0:World} {v1 v2:Value} {x y:VerA} (hT:TabIn W0) (hP:TabP W0) (hv1:VerAt W0 v1 x) (hv2:VerAt W0 v2 y) (hi1:VerIn x) (hi2:VerIn y) :
  Calls Tryz.prog 8 #[v1,v2] W0 fun e w'=>e=.returned (.bool true)∧Upd (fun _=>False) W0 w':=by
 obtain ⟨s1,d1,s2,d2,rfl,hxa,hxb⟩:=hv1
 obtain ⟨t1,e1,t2,e2,rfl,hya,hyb⟩:=hv2
 have Kl:=hid (show VerAt W0 (.agg #[.int .i64 x.gen,.int .i64 x.flushed,.int .i64 x.next,.int .i64 x.low,.int .i64 x.clock,.slice s1 x.state.length d1,.slice s2 x.runs.length d2]) x from ⟨s1,d1,s2,d2,rfl,hxa,hxb⟩)
 have Kh:=hid (show VerAt W0 (.agg #[.int .i64 y.gen,.int .i64 y.flushed,.int .i64 y.next,.int .i64 y.low,.int .i64 y.clock,.slice t1 y.state.length e1,.slice t2 y.runs.length e2]) y from ⟨t1,e1,t2,e2,rfl,hya,hyb⟩)
 obtain ⟨m1,hm1⟩:∃m,m=x.state.length:=⟨_,rfl⟩
 obtain ⟨m2,hm2⟩:∃m,m=x.runs.length:=⟨_,rfl⟩
 obtain ⟨n1,hn1⟩:∃m,m=y.state.length:=⟨_,rfl⟩
 obtain ⟨n2,hn2⟩:∃m,m=y.runs.length:=⟨_,rfl⟩
 rw [←hm1,←hm2] at Kl⊢
 rw [←hn1,←hn2] at Kh⊢
 have HT:=hid hT;have HP:=hid hP;have Je:=hid hi1;have Zj:=hid hi2
 obtain ⟨Y,hY⟩:∃Y:Nat→VerA,Y=fun i=>if i=0 then followA x 1 else followA y 1:=⟨_,rfl⟩
 have Ky:=hid (show ∀i,okA (Y i)=true∧VerIn (Y i)∧(Y i).gen=1∧(∀r∈(Y i).runs,r.count≤9223372036854775807) from fun i=>by
  have key:∀z:VerA,VerIn z→okA (followA z 1)=true∧VerIn (followA z 1)∧(followA z 1).gen=1∧(∀r∈(followA z 1).runs,r.count≤9223372036854775807):=fun z hz=>⟨followA_ok (by decide),followA_in hz,followA_gen _ _,followA_count (fun r hr=>(hz.2.2.2.2.2.2.2 r hr).2.1.2)⟩
  rw [hY]
  show okA (if i=0 then _ else _)=true∧VerIn (if i=0 then _ else _)∧(if i=0 then _ else _:VerA).gen=1∧(∀r∈(if i=0 then _ else _:VerA).runs,_)
  by_cases e:i=0
  ·rw [if_pos e];exact key x hi1
  ·rw [if_neg e];exact key y hi2)
 have Zk:=hid (show followA x 1=Y 0 from by rw [hY];rfl)
 have Zl:=hid (show followA y 1=Y 1 from by rw [hY];rfl)
 obtain ⟨W1,hW1⟩:∃W1,W1=(W0.alloc (.cells #[.int .i64 x.gen,.int .i64 x.flushed,.int .i64 x.next,.int .i64 x.low,.int .i64 x.clock,.slice s1 m1 d1,.slice s2 m2 d2] 25)).alloc (.cells #[.int .i64 y.gen,.int .i64 y.flushed,.int .i64 y.next,.int .i64 y.low,.int .i64 y.clock,.slice t1 n1 e1,.slice t2 n2 e2] 25):=⟨_,rfl⟩
 have hu1:Upd (fun _=>False) W0 W1:=by rw [hW1];exact ((Upd.refl _ W0).alloc _).alloc _
 obtain ⟨p2,hp2⟩:∃p,p=W0.heap.size:=⟨_,rfl⟩
 obtain ⟨p3,hp3⟩:∃p,p=W0.heap.size+1:=⟨_,rfl⟩
 have hr2:W1.heap[p2]? = some (.cells #[.int .i64 x.gen,.int .i64 x.flushed,.int .i64 x.next,.int .i64 x.low,.int .i64 x.clock,.slice s1 m1 d1,.slice s2 m2 d2] 25 (0,0)):=by rw [hW1,hp2,heap_alloc_past _ _ _ (by simp)];exact heap_alloc_new W0 _
 have hr3:W1.heap[p3]? = some (.cells #[.int .i64 y.gen,.int .i64 y.flushed,.int .i64 y.next,.int .i64 y.low,.int .i64 y.clock,.slice t1 n1 e1,.slice t2 n2 e2] 25 (0,0)):=by
  have h:=heap_alloc_new (W0.alloc (.cells #[.int .i64 x.gen,.int .i64 x.flushed,.int .i64 x.next,.int .i64 x.low,.int .i64 x.clock,.slice s1 m1 d1,.slice s2 m2 d2] 25)) (.cells #[.int .i64 y.gen,.int .i64 y.flushed,.int .i64 y.next,.int .i64 y.low,.int .i64 y.clock,.slice t1 n1 e1,.slice t2 n2 e2] 25)
  have hs:(W0.alloc (.cells #[.int .i64 x.gen,.int .i64 x.flushed,.int .i64 x.next,.int .i64 x.low,.int .i64 x.clock,.slice s1 m1 d1,.slice s2 m2 d2] 25)).heap.size=p3:=by simp [hp3]
  rw [hs] at h
  rw [hW1]
  exact h
 have Zm:=hid hu1;have Qo:=hid hW1;have Qp:=hid hp2;have Qq:=hid hp3;have Jf:=hid hr2;have Jg:=hid hr3
 clear hT hP hi1 hi2 hxa hxb hya hyb hm1 hm2 hn1 hn2 hY hu1 hW1 hp2 hp3 hr2 hr3
 go_enter Tryz.func8,Tryz.ntmps8
 go_upto_region 1 with fail
 rw [←Qo.out,show W0.heap.size+1=p3 from Qq.out.symm,show W0.heap.size=p2 from Qp.out.symm]
 go_cut [5] (fun tv wx=>∃(tb:Nat) (c0 c1 c2 c3 c4 c5 c6 c7 c8 c9 c10 c11 c12 c13:Value),tv=.pointer (some ⟨tb,0,none⟩)∧wx.heap[tb]? = some (.cells #[c0,c1,c2,c3,c4,c5,c6,c7,c8,c9,c10,c11,c12,c13] 87 (0,0))∧Upd (fun _=>False) W0 wx∧W0.heap.size≤tb∧∀V,Upd (fun _=>False) W0 V→VerAt V (.agg #[c0,c1,c2,c3,c4,c5,c6]) (Y 0)∧VerAt V (.agg #[c7,c8,c9,c10,c11,c12,c13]) (Y 1))
 case first=>
  have hHeld:(fun V=>V.heap[p2]? = some (.cells #[.int .i64 x.gen,.int .i64 x.flushed,.int .i64 x.next,.int .i64 x.low,.int .i64 x.clock,.slice s1 m1 d1,.slice s2 m2 d2] 25 (0,0))∧V.heap[p3]? = some (.cells #[.int .i64 y.gen,.int .i64 y.flushed,.int .i64 y.next,.int .i64 y.low,.int .i64 y.clock,.slice t1 n1 e1,.slice t2 n2 e2] 25 (0,0))) W1.drew:=⟨Jf.out,Jg.out⟩
  have Kb:=hid (show Upd (fun _=>False) W0 W1.drew from Zm.out.drew)
  refine wp_region_l (fun V=>V.heap[p2]? = some (.cells #[.int .i64 x.gen,.int .i64 x.flushed,.int .i64 x.next,.int .i64 x.low,.int .i64 x.clock,.slice s1 m1 d1,.slice s2 m2 d2] 25 (0,0))∧V.heap[p3]? = some (.cells #[.int .i64 y.gen,.int .i64 y.flushed,.int .i64 y.next,.int .i64 y.low,.int .i64 y.clock,.slice t1 n1 e1,.slice t2 n2 e2] 25 (0,0))) 6 7 rfl (by kernel_rfl) ?_
  refine' tk 0 [1,3,4,6] (y:=?y1_0) (r:=?r1_0)
  case y1_0=>(intro wS hSw;obtain ⟨⟨q0,q1,q2,q3,q4,q5,q6⟩,-,-⟩:=verCells hSw.1;go_simp;(try with_reducible rfl))
  (try simp only [Act.put,sA,sZ,sS])
  refine' tk 2 [3,4,6] (y:=?y1_2) (r:=?r1_2)
  case y1_2=>(intro wS hSw;obtain ⟨⟨q0,q1,q2,q3,q4,q5,q6⟩,-,-⟩:=verCells hSw.2;go_simp;(try with_reducible rfl))
  (try simp only [Act.put,sA,sZ,sS])
  refine wpAnyL_two 1 5 rfl rfl (by kernel_rfl) (fun K hK=>?_) (fun K hK=>?_)
  ·skip
   go_simp
   go_at_call 15
   refine (follow_any (x:=x) (g:=1) (Kl.out.keep Kb.out) (lent_lim Je.out) (by decide)).mono ?_
   rintro e V1 ⟨vx,rfl,hkx,hux⟩
   have Kz:=hid hkx
   obtain ⟨a1,k1,a2,k2,hvx,-,-⟩:=hkx _ Kl.out
   obtain ⟨l1,hl1⟩:∃l,l=(followA x 1).state.length:=⟨_,rfl⟩
   obtain ⟨l2,hl2⟩:∃l,l=(followA x 1).runs.length:=⟨_,rfl⟩
   rw [←hl1,←hl2] at hvx
   clear hl1 hl2
   generalize (followA x 1).gen=g0 at hvx
   generalize (followA x 1).flushed=g1 at hvx
   generalize (followA x 1).next=g2 at hvx
   generalize (followA x 1).low=g3 at hvx
   generalize (followA x 1).clock=g4 at hvx
   subst hvx
   have huc:=Kb.out.trans hux (fun _ _ e=>e)
   have hHeld:(fun V=>V.heap[p2]? = some (.cells #[.int .i64 x.gen,.int .i64 x.flushed,.int .i64 x.next,.int .i64 x.low,.int .i64 x.clock,.slice s1 m1 d1,.slice s2 m2 d2] 25 (0,0))∧V.heap[p3]? = some (.cells #[.int .i64 y.gen,.int .i64 y.flushed,.int .i64 y.next,.int .i64 y.low,.int .i64 y.clock,.slice t1 n1 e1,.slice t2 n2 e2] 25 (0,0))) V1:=⟨hux.get hHeld.1 (fun e=>e),hux.get hHeld.2 (fun e=>e)⟩
   refine hK.out _ _ (fun _=>hHeld) ?_
   clear hK K
   (try simp only [Act.put,sA,sZ,sS])
   have Ka:=hid huc
   clear Kb huc hux
   have Kb:=Ka
   clear Ka
   clear hkx
   refine wpAnyL_two 3 5 rfl rfl (by kernel_rfl) (fun K hK=>?_) (fun K hK=>?_)
   ·skip
    go_simp
    go_at_call 15
    refine (follow_any (x:=y) (g:=1) (Kh.out.keep Kb.out) (lent_lim Zj.out) (by decide)).mono ?_
    rintro e V2 ⟨vy,rfl,hky,hux⟩
    have Kt:=hid hky
    obtain ⟨b1,f1,b2,f2,hvy,-,-⟩:=hky _ Kh.out
    obtain ⟨o1,ho1⟩:∃l,l=(followA y 1).state.length:=⟨_,rfl⟩
    obtain ⟨o2,ho2⟩:∃l,l=(followA y 1).runs.length:=⟨_,rfl⟩
    rw [←ho1,←ho2] at hvy
    clear ho1 ho2
    generalize (followA y 1).gen=h0 at hvy
    generalize (followA y 1).flushed=h1 at hvy
    generalize (followA y 1).next=h2 at hvy
    generalize (followA y 1).low=h3 at hvy
    generalize (followA y 1).clock=h4 at hvy
    subst hvy
    have huc:=Kb.out.trans hux (fun _ _ e=>e)
    have hHeld:(fun V=>V.heap[p2]? = some (.cells #[.int .i64 x.gen,.int .i64 x.flushed,.int .i64 x.next,.int .i64 x.low,.int .i64 x.clock,.slice s1 m1 d1,.slice s2 m2 d2] 25 (0,0))∧V.heap[p3]? = some (.cells #[.int .i64 y.gen,.int .i64 y.flushed,.int .i64 y.next,.int .i64 y.low,.int .i64 y.clock,.slice t1 n1 e1,.slice t2 n2 e2] 25 (0,0))) V2:=⟨hux.get hHeld.1 (fun e=>e),hux.get hHeld.2 (fun e=>e)⟩
    refine hK.out _ _ (fun _=>hHeld) ?_
    clear hK K
    (try simp only [Act.put,sA,sZ,sS])
    have Ka:=hid huc
    clear Kb huc hux
    have Kb:=Ka
    clear Ka
    clear hky
    refine' tk 4 [6] (y:=?y1_411) (r:=?r1_411)
    case y1_411=>(intro wS hSw;go_simp;(try with_reducible rfl))
    (try simp only [Act.put,sA,sZ,sS])
    refine wpAnyL_one 5 rfl (by kernel_rfl) (fun K hK=>?_)
    go_simp
    have hal:=(Upd.refl (fun _=>False) V2).alloc (.cells #[.int .i64 0,.int .i64 0,.int .i64 0,.int .i64 0,.int .i64 0,.slice none 0 0,.slice none 0 0,.int .i64 0,.int .i64 0,.int .i64 0,.int .i64 0,.int .i64 0,.slice none 0 0,.slice none 0 0] 87)
    have htb:=heap_alloc_new V2 (.cells #[.int .i64 0,.int .i64 0,.int .i64 0,.int .i64 0,.int .i64 0,.slice none 0 0,.slice none 0 0,.int .i64 0,.int .i64 0,.int .i64 0,.int .i64 0,.int .i64 0,.slice none 0 0,.slice none 0 0] 87)
    have huc:=Kb.out.trans hal (fun _ _ e=>e)
    have hlo:W0.heap.size≤V2.heap.size:=Kb.out.size
    have hHeld:(fun V=>V.heap[p2]? = some (.cells #[.int .i64 x.gen,.int .i64 x.flushed,.int .i64 x.next,.int .i64 x.low,.int .i64 x.clock,.slice s1 m1 d1,.slice s2 m2 d2] 25 (0,0))∧V.heap[p3]? = some (.cells #[.int .i64 y.gen,.int .i64 y.flushed,.int .i64 y.next,.int .i64 y.low,.int .i64 y.clock,.slice t1 n1 e1,.slice t2 n2 e2] 25 (0,0))) (V2.alloc (.cells #[.int .i64 0,.int .i64 0,.int .i64 0,.int .i64 0,.int .i64 0,.slice none 0 0,.slice none 0 0,.int .i64 0,.int .i64 0,.int .i64 0,.int .i64 0,.int .i64 0,.slice none 0 0,.slice none 0 0] 87)):=⟨hal.get hHeld.1 (fun e=>e),hal.get hHeld.2 (fun e=>e)⟩
    refine hK.out _ _ (fun _=>hHeld) ?_
    clear hK K
    (try simp only [Act.put,sA,sZ,sS])
    obtain ⟨tb,htbe⟩:∃p,p=V2.heap.size:=⟨_,rfl⟩
    obtain ⟨V3,hWn⟩:∃V,V=V2.alloc (.cells #[.int .i64 0,.int .i64 0,.int .i64 0,.int .i64 0,.int .i64 0,.slice none 0 0,.slice none 0 0,.int .i64 0,.int .i64 0,.int .i64 0,.int .i64 0,.int .i64 0,.slice none 0 0,.slice none 0 0] 87):=⟨_,rfl⟩
    rw [←htbe] at htb hlo⊢
    rw [←hWn] at htb huc hHeld⊢
    clear hal htbe hWn
    have Kc:=hid htb;have Kd:=hid hlo
    clear htb hlo
    have Ka:=hid huc
    clear Kb huc
    have Kb:=Ka
    clear Ka
    refine wpAnyL_one 6 rfl (by kernel_rfl) (fun K hK=>?_)
    rw [if_pos (by kernel_rfl)]
    refine wp_store_row 87 _ _ rfl tb #[.int .i64 g0,.int .i64 g1,.int .i64 g2,.int .i64 g3,.int .i64 g4,.slice a1 l1 k1,.slice a2 l2 k2,.int .i64 h0,.int .i64 h1,.int .i64 h2,.int .i64 h3,.int .i64 h4,.slice b1 o1 f1,.slice b2 o2 f2] rfl rfl 87 _ Kc.out (by kernel_rfl) rfl (by simp [Value.oneCell']) ?_
    refine hK.out _ _ (fun h=>absurd rfl h) ?_
    clear hK K
    refine wpAnyL_done (by kernel_rfl) ?_ _
    go_wp2
    go_meet
    have hrw:=setRow_heap V3 tb _ #[.int .i64 g0,.int .i64 g1,.int .i64 g2,.int .i64 g3,.int .i64 g4,.slice a1 l1 k1,.slice a2 l2 k2,.int .i64 h0,.int .i64 h1,.int .i64 h2,.int .i64 h3,.int .i64 h4,.slice b1 o1 f1,.slice b2 o2 f2] 87 _ Kc.out
    have hus:Upd (fun k=>k=tb) V3 (V3.setRow tb #[.int .i64 g0,.int .i64 g1,.int .i64 g2,.int .i64 g3,.int .i64 g4,.slice a1 l1 k1,.slice a2 l2 k2,.int .i64 h0,.int .i64 h1,.int .i64 h2,.int .i64 h3,.int .i64 h4,.slice b1 o1 f1,.slice b2 o2 f2]):=⟨rfl,rfl,rfl,by simp,fun k _ hk=>setRow_other V3 tb k _ hk⟩
    refine ⟨tb,.int .i64 g0,.int .i64 g1,.int .i64 g2,.int .i64 g3,.int .i64 g4,.slice a1 l1 k1,.slice a2 l2 k2,.int .i64 h0,.int .i64 h1,.int .i64 h2,.int .i64 h3,.int .i64 h4,.slice b1 o1 f1,.slice b2 o2 f2,rfl,hrw,Kb.out.trans hus (fun k hk e=>by have h1:=Kd.out;omega),Kd.out,fun V hV=>⟨?_,?_⟩⟩
    ·have h:=Kz.out V (Kl.out.keep hV)
     rw [←Zk.out];exact h
    ·have h:=Kt.out V (Kh.out.keep hV)
     rw [←Zl.out];exact h
   ·skip
    go_simp
    have hal:=(Upd.refl (fun _=>False) V1).alloc (.cells #[.int .i64 0,.int .i64 0,.int .i64 0,.int .i64 0,.int .i64 0,.slice none 0 0,.slice none 0 0,.int .i64 0,.int .i64 0,.int .i64 0,.int .i64 0,.int .i64 0,.slice none 0 0,.slice none 0 0] 87)
    have htb:=heap_alloc_new V1 (.cells #[.int .i64 0,.int .i64 0,.int .i64 0,.int .i64 0,.int .i64 0,.slice none 0 0,.slice none 0 0,.int .i64 0,.int .i64 0,.int .i64 0,.int .i64 0,.int .i64 0,.slice none 0 0,.slice none 0 0] 87)
    have huc:=Kb.out.trans hal (fun _ _ e=>e)
    have hlo:W0.heap.size≤V1.heap.size:=Kb.out.size
    have hHeld:(fun V=>V.heap[p2]? = some (.cells #[.int .i64 x.gen,.int .i64 x.flushed,.int .i64 x.next,.int .i64 x.low,.int .i64 x.clock,.slice s1 m1 d1,.slice s2 m2 d2] 25 (0,0))∧V.heap[p3]? = some (.cells #[.int .i64 y.gen,.int .i64 y.flushed,.int .i64 y.next,.int .i64 y.low,.int .i64 y.clock,.slice t1 n1 e1,.slice t2 n2 e2] 25 (0,0))) (V1.alloc (.cells #[.int .i64 0,.int .i64 0,.int .i64 0,.int .i64 0,.int .i64 0,.slice none 0 0,.slice none 0 0,.int .i64 0,.int .i64 0,.int .i64 0,.int .i64 0,.int .i64 0,.slice none 0 0,.slice none 0 0] 87)):=⟨hal.get hHeld.1 (fun e=>e),hal.get hHeld.2 (fun e=>e)⟩
    refine hK.out _ _ (fun _=>hHeld) ?_
    clear hK K
    (try simp only [Act.put,sA,sZ,sS])
    obtain ⟨tb,htbe⟩:∃p,p=V1.heap.size:=⟨_,rfl⟩
    obtain ⟨V4,hWn⟩:∃V,V=V1.alloc (.cells #[.int .i64 0,.int .i64 0,.int .i64 0,.int .i64 0,.int .i64 0,.slice none 0 0,.slice none 0 0,.int .i64 0,.int .i64 0,.int .i64 0,.int .i64 0,.int .i64 0,.slice none 0 0,.slice none 0 0] 87):=⟨_,rfl⟩
    rw [←htbe] at htb hlo⊢
    rw [←hWn] at htb huc hHeld⊢
    clear hal htbe hWn
    have Kc:=hid htb;have Kd:=hid hlo
    clear htb hlo
    have Ka:=hid huc
    clear Kb huc
    have Kb:=Ka
    clear Ka
    refine wpAnyL_one 3 rfl (by kernel_rfl) (fun K hK=>?_)
    go_simp
    go_at_call 15
    refine (follow_any (x:=y) (g:=1) (Kh.out.keep Kb.out) (lent_lim Zj.out) (by decide)).mono ?_
    rintro e V5 ⟨vy,rfl,hky,hux⟩
    have Kt:=hid hky
    obtain ⟨b1,f1,b2,f2,hvy,-,-⟩:=hky _ Kh.out
    obtain ⟨o1,ho1⟩:∃l,l=(followA y 1).state.length:=⟨_,rfl⟩
    obtain ⟨o2,ho2⟩:∃l,l=(followA y 1).runs.length:=⟨_,rfl⟩
    rw [←ho1,←ho2] at hvy
    clear ho1 ho2
    generalize (followA y 1).gen=h0 at hvy
    generalize (followA y 1).flushed=h1 at hvy
    generalize (followA y 1).next=h2 at hvy
    generalize (followA y 1).low=h3 at hvy
    generalize (followA y 1).clock=h4 at hvy
    subst hvy
    have huc:=Kb.out.trans hux (fun _ _ e=>e)
    have hHeld:(fun V=>V.heap[p2]? = some (.cells #[.int .i64 x.gen,.int .i64 x.flushed,.int .i64 x.next,.int .i64 x.low,.int .i64 x.clock,.slice s1 m1 d1,.slice s2 m2 d2] 25 (0,0))∧V.heap[p3]? = some (.cells #[.int .i64 y.gen,.int .i64 y.flushed,.int .i64 y.next,.int .i64 y.low,.int .i64 y.clock,.slice t1 n1 e1,.slice t2 n2 e2] 25 (0,0))) V5:=⟨hux.get hHeld.1 (fun e=>e),hux.get hHeld.2 (fun e=>e)⟩
    refine hK.out _ _ (fun _=>hHeld) ?_
    clear hK K
    (try simp only [Act.put,sA,sZ,sS])
    have htb:=hux.get Kc.out (fun e=>e)
    clear Kc
    have Kc:=hid htb
    clear htb
    have Ka:=hid huc
    clear Kb huc hux
    have Kb:=Ka
    clear Ka
    clear hky
    refine' tk 4 [6] (y:=?y1_4215) (r:=?r1_4215)
    case y1_4215=>(intro wS hSw;go_simp;(try with_reducible rfl))
    (try simp only [Act.put,sA,sZ,sS])
    refine wpAnyL_one 6 rfl (by kernel_rfl) (fun K hK=>?_)
    rw [if_pos (by kernel_rfl)]
    refine wp_store_row 87 _ _ rfl tb #[.int .i64 g0,.int .i64 g1,.int .i64 g2,.int .i64 g3,.int .i64 g4,.slice a1 l1 k1,.slice a2 l2 k2,.int .i64 h0,.int .i64 h1,.int .i64 h2,.int .i64 h3,.int .i64 h4,.slice b1 o1 f1,.slice b2 o2 f2] rfl rfl 87 _ Kc.out (by kernel_rfl) rfl (by simp [Value.oneCell']) ?_
    refine hK.out _ _ (fun h=>absurd rfl h) ?_
    clear hK K
    refine wpAnyL_done (by kernel_rfl) ?_ _
    go_wp2
    go_meet
    have hrw:=setRow_heap V5 tb _ #[.int .i64 g0,.int .i64 g1,.int .i64 g2,.int .i64 g3,.int .i64 g4,.slice a1 l1 k1,.slice a2 l2 k2,.int .i64 h0,.int .i64 h1,.int .i64 h2,.int .i64 h3,.int .i64 h4,.slice b1 o1 f1,.slice b2 o2 f2] 87 _ Kc.out
    have hus:Upd (fun k=>k=tb) V5 (V5.setRow tb #[.int .i64 g0,.int .i64 g1,.int .i64 g2,.int .i64 g3,.int .i64 g4,.slice a1 l1 k1,.slice a2 l2 k2,.int .i64 h0,.int .i64 h1,.int .i64 h2,.int .i64 h3,.int .i64 h4,.slice b1 o1 f1,.slice b2 o2 f2]):=⟨rfl,rfl,rfl,by simp,fun k _ hk=>setRow_other V5 tb k _ hk⟩
    refine ⟨tb,.int .i64 g0,.int .i64 g1,.int .i64 g2,.int .i64 g3,.int .i64 g4,.slice a1 l1 k1,.slice a2 l2 k2,.int .i64 h0,.int .i64 h1,.int .i64 h2,.int .i64 h3,.int .i64 h4,.slice b1 o1 f1,.slice b2 o2 f2,rfl,hrw,Kb.out.trans hus (fun k hk e=>by have h1:=Kd.out;omega),Kd.out,fun V hV=>⟨?_,?_⟩⟩
    ·have h:=Kz.out V (Kl.out.keep hV)
     rw [←Zk.out];exact h
    ·have h:=Kt.out V (Kh.out.keep hV)
     rw [←Zl.out];exact h
  ·skip
   go_simp
   have hal:Upd (fun _=>False) W1 (W1.alloc (.cells #[.int .i64 0,.int .i64 0,.int .i64 0,.int .i64 0,.int .i64 0,.slice none 0 0,.slice none 0 0,.int .i64 0,.int .i64 0,.int .i64 0,.int .i64 0,.int .i64 0,.slice none 0 0,.slice none 0 0] 87)).drew:=((Upd.refl (fun _=>False) W1).alloc (.cells #[.int .i64 0,.int .i64 0,.int .i64 0,.int .i64 0,.int .i64 0,.slice none 0 0,.slice none 0 0,.int .i64 0,.int .i64 0,.int .i64 0,.int .i64 0,.int .i64 0,.slice none 0 0,.slice none 0 0] 87)).drew
   have htb:(W1.alloc (.cells #[.int .i64 0,.int .i64 0,.int .i64 0,.int .i64 0,.int .i64 0,.slice none 0 0,.slice none 0 0,.int .i64 0,.int .i64 0,.int .i64 0,.int .i64 0,.int .i64 0,.slice none 0 0,.slice none 0 0] 87)).drew.heap[W1.heap.size]? = some (.cells #[.int .i64 0,.int .i64 0,.int .i64 0,.int .i64 0,.int .i64 0,.slice none 0 0,.slice none 0 0,.int .i64 0,.int .i64 0,.int .i64 0,.int .i64 0,.int .i64 0,.slice none 0 0,.slice none 0 0] 87 (0,0)):=heap_alloc_new W1 (.cells #[.int .i64 0,.int .i64 0,.int .i64 0,.int .i64 0,.int .i64 0,.slice none 0 0,.slice none 0 0,.int .i64 0,.int .i64 0,.int .i64 0,.int .i64 0,.int .i64 0,.slice none 0 0,.slice none 0 0] 87)
   have huc:=Zm.out.trans hal (fun _ _ e=>e)
   have hlo:W0.heap.size≤W1.heap.size:=Zm.out.size
   have hHeld:(fun V=>V.heap[p2]? = some (.cells #[.int .i64 x.gen,.int .i64 x.flushed,.int .i64 x.next,.int .i64 x.low,.int .i64 x.clock,.slice s1 m1 d1,.slice s2 m2 d2] 25 (0,0))∧V.heap[p3]? = some (.cells #[.int .i64 y.gen,.int .i64 y.flushed,.int .i64 y.next,.int .i64 y.low,.int .i64 y.clock,.slice t1 n1 e1,.slice t2 n2 e2] 25 (0,0))) (W1.alloc (.cells #[.int .i64 0,.int .i64 0,.int .i64 0,.int .i64 0,.int .i64 0,.slice none 0 0,.slice none 0 0,.int .i64 0,.int .i64 0,.int .i64 0,.int .i64 0,.int .i64 0,.slice none 0 0,.slice none 0 0] 87)).drew:=⟨hal.get Jf.out (fun e=>e),hal.get Jg.out (fun e=>e)⟩
   refine hK.out _ _ (fun _=>hHeld) ?_
   clear hK K
   (try simp only [Act.put,sA,sZ,sS])
   obtain ⟨tb,htbe⟩:∃p,p=W1.heap.size:=⟨_,rfl⟩
   obtain ⟨V6,hWn⟩:∃V,V=(W1.alloc (.cells #[.int .i64 0,.int .i64 0,.int .i64 0,.int .i64 0,.int .i64 0,.slice none 0 0,.slice none 0 0,.int .i64 0,.int .i64 0,.int .i64 0,.int .i64 0,.int .i64 0,.slice none 0 0,.slice none 0 0] 87)).drew:=⟨_,rfl⟩
   rw [←htbe] at htb hlo⊢
   rw [←hWn] at htb huc hHeld⊢
   clear hal htbe hWn
   have Kc:=hid htb;have Kd:=hid hlo
   clear htb hlo
   have Ka:=hid huc
   clear Kb huc
   have Kb:=Ka
   clear Ka
   refine wpAnyL_one 1 rfl (by kernel_rfl) (fun K hK=>?_)
   go_simp
   go_at_call 15
   refine (follow_any (x:=x) (g:=1) (Kl.out.keep Kb.out) (lent_lim Je.out) (by decide)).mono ?_
   rintro e V7 ⟨vx,rfl,hkx,hux⟩
   have Kz:=hid hkx
   obtain ⟨a1,k1,a2,k2,hvx,-,-⟩:=hkx _ Kl.out
   obtain ⟨l1,hl1⟩:∃l,l=(followA x 1).state.length:=⟨_,rfl⟩
   obtain ⟨l2,hl2⟩:∃l,l=(followA x 1).runs.length:=⟨_,rfl⟩
   rw [←hl1,←hl2] at hvx
   clear hl1 hl2
   generalize (followA x 1).gen=g0 at hvx
   generalize (followA x 1).flushed=g1 at hvx
   generalize (followA x 1).next=g2 at hvx
   generalize (followA x 1).low=g3 at hvx
   generalize (followA x 1).clock=g4 at hvx
   subst hvx
   have huc:=Kb.out.trans hux (fun _ _ e=>e)
   have hHeld:(fun V=>V.heap[p2]? = some (.cells #[.int .i64 x.gen,.int .i64 x.flushed,.int .i64 x.next,.int .i64 x.low,.int .i64 x.clock,.slice s1 m1 d1,.slice s2 m2 d2] 25 (0,0))∧V.heap[p3]? = some (.cells #[.int .i64 y.gen,.int .i64 y.flushed,.int .i64 y.next,.int .i64 y.low,.int .i64 y.clock,.slice t1 n1 e1,.slice t2 n2 e2] 25 (0,0))) V7:=⟨hux.get hHeld.1 (fun e=>e),hux.get hHeld.2 (fun e=>e)⟩
   refine hK.out _ _ (fun _=>hHeld) ?_
   clear hK K
   (try simp only [Act.put,sA,sZ,sS])
   have htb:=hux.get Kc.out (fun e=>e)
   clear Kc
   have Kc:=hid htb
   clear htb
   have Ka:=hid huc
   clear Kb huc hux
   have Kb:=Ka
   clear Ka
   clear hkx
   refine wpAnyL_one 3 rfl (by kernel_rfl) (fun K hK=>?_)
   go_simp
   go_at_call 15
   refine (follow_any (x:=y) (g:=1) (Kh.out.keep Kb.out) (lent_lim Zj.out) (by decide)).mono ?_
   rintro e V8 ⟨vy,rfl,hky,hux⟩
   have Kt:=hid hky
   obtain ⟨b1,f1,b2,f2,hvy,-,-⟩:=hky _ Kh.out
   obtain ⟨o1,ho1⟩:∃l,l=(followA y 1).state.length:=⟨_,rfl⟩
   obtain ⟨o2,ho2⟩:∃l,l=(followA y 1).runs.length:=⟨_,rfl⟩
   rw [←ho1,←ho2] at hvy
   clear ho1 ho2
   generalize (followA y 1).gen=h0 at hvy
   generalize (followA y 1).flushed=h1 at hvy
   generalize (followA y 1).next=h2 at hvy
   generalize (followA y 1).low=h3 at hvy
   generalize (followA y 1).clock=h4 at hvy
   subst hvy
   have huc:=Kb.out.trans hux (fun _ _ e=>e)
   have hHeld:(fun V=>V.heap[p2]? = some (.cells #[.int .i64 x.gen,.int .i64 x.flushed,.int .i64 x.next,.int .i64 x.low,.int .i64 x.clock,.slice s1 m1 d1,.slice s2 m2 d2] 25 (0,0))∧V.heap[p3]? = some (.cells #[.int .i64 y.gen,.int .i64 y.flushed,.int .i64 y.next,.int .i64 y.low,.int .i64 y.clock,.slice t1 n1 e1,.slice t2 n2 e2] 25 (0,0))) V8:=⟨hux.get hHeld.1 (fun e=>e),hux.get hHeld.2 (fun e=>e)⟩
   refine hK.out _ _ (fun _=>hHeld) ?_
   clear hK K
   (try simp only [Act.put,sA,sZ,sS])
   have htb:=hux.get Kc.out (fun e=>e)
   clear Kc
   have Kc:=hid htb
   clear htb
   have Ka:=hid huc
   clear Kb huc hux
   have Kb:=Ka
   clear Ka
   clear hky
   refine' tk 4 [6] (y:=?y1_4251) (r:=?r1_4251)
   case y1_4251=>(intro wS hSw;go_simp;(try with_reducible rfl))
   (try simp only [Act.put,sA,sZ,sS])
   refine wpAnyL_one 6 rfl (by kernel_rfl) (fun K hK=>?_)
   rw [if_pos (by kernel_rfl)]
   refine wp_store_row 87 _ _ rfl tb #[.int .i64 g0,.int .i64 g1,.int .i64 g2,.int .i64 g3,.int .i64 g4,.slice a1 l1 k1,.slice a2 l2 k2,.int .i64 h0,.int .i64 h1,.int .i64 h2,.int .i64 h3,.int .i64 h4,.slice b1 o1 f1,.slice b2 o2 f2] rfl rfl 87 _ Kc.out (by kernel_rfl) rfl (by simp [Value.oneCell']) ?_
   refine hK.out _ _ (fun h=>absurd rfl h) ?_
   clear hK K
   refine wpAnyL_done (by kernel_rfl) ?_ _
   go_wp2
   go_meet
   have hrw:=setRow_heap V8 tb _ #[.int .i64 g0,.int .i64 g1,.int .i64 g2,.int .i64 g3,.int .i64 g4,.slice a1 l1 k1,.slice a2 l2 k2,.int .i64 h0,.int .i64 h1,.int .i64 h2,.int .i64 h3,.int .i64 h4,.slice b1 o1 f1,.slice b2 o2 f2] 87 _ Kc.out
   have hus:Upd (fun k=>k=tb) V8 (V8.setRow tb #[.int .i64 g0,.int .i64 g1,.int .i64 g2,.int .i64 g3,.int .i64 g4,.slice a1 l1 k1,.slice a2 l2 k2,.int .i64 h0,.int .i64 h1,.int .i64 h2,.int .i64 h3,.int .i64 h4,.slice b1 o1 f1,.slice b2 o2 f2]):=⟨rfl,rfl,rfl,by simp,fun k _ hk=>setRow_other V8 tb k _ hk⟩
   refine ⟨tb,.int .i64 g0,.int .i64 g1,.int .i64 g2,.int .i64 g3,.int .i64 g4,.slice a1 l1 k1,.slice a2 l2 k2,.int .i64 h0,.int .i64 h1,.int .i64 h2,.int .i64 h3,.int .i64 h4,.slice b1 o1 f1,.slice b2 o2 f2,rfl,hrw,Kb.out.trans hus (fun k hk e=>by have h1:=Kd.out;omega),Kd.out,fun V hV=>⟨?_,?_⟩⟩
   ·have h:=Kz.out V (Kl.out.keep hV)
    rw [←Zk.out];exact h
   ·have h:=Kt.out V (Kh.out.keep hV)
    rw [←Zl.out];exact h
 case rest=>
  obtain ⟨tb,c0,c1,c2,c3,c4,c5,c6,c7,c8,c9,c10,c11,c12,c13,rfl,hrow,hux,htbl,hver⟩:=hcut
  obtain ⟨TO,hTO⟩:∃O,O=Obj.cells #[c0,c1,c2,c3,c4,c5,c6,c7,c8,c9,c10,c11,c12,c13] 87 (0,0):=⟨_,rfl⟩
  rw [←hTO] at hrow
  have Kr:=hid (show ∀i,i<2→∃z0 z1 z2 z3 z4 z5 z6,(∀V:World,V.heap[tb]? = some TO→V.cell? ⟨tb,i*7,none⟩=some z0∧V.cell? ⟨tb,i*7+1,none⟩=some z1∧V.cell? ⟨tb,i*7+2,none⟩=some z2∧V.cell? ⟨tb,i*7+3,none⟩=some z3∧V.cell? ⟨tb,i*7+4,none⟩=some z4∧V.cell? ⟨tb,i*7+5,none⟩=some z5∧V.cell? ⟨tb,i*7+6,none⟩=some z6)∧∀V,Upd (fun _=>False) W0 V→VerAt V (.agg #[z0,z1,z2,z3,z4,z5,z6]) (Y i) from fun i hi=>by
   rcases (show i=0∨i=1 from by omega) with rfl|rfl
   ·exact ⟨c0,c1,c2,c3,c4,c5,c6,fun V hV=>by rw [hTO] at hV;exact ⟨cell_of_row _ _ _ _ _ _ hV,cell_of_row _ _ _ _ _ _ hV,cell_of_row _ _ _ _ _ _ hV,cell_of_row _ _ _ _ _ _ hV,cell_of_row _ _ _ _ _ _ hV,cell_of_row _ _ _ _ _ _ hV,cell_of_row _ _ _ _ _ _ hV⟩,fun V hV=>(hver V hV).1⟩
   ·exact ⟨c7,c8,c9,c10,c11,c12,c13,fun V hV=>by rw [hTO] at hV;exact ⟨cell_of_row _ _ _ _ _ _ hV,cell_of_row _ _ _ _ _ _ hV,cell_of_row _ _ _ _ _ _ hV,cell_of_row _ _ _ _ _ _ hV,cell_of_row _ _ _ _ _ _ hV,cell_of_row _ _ _ _ _ _ hV,cell_of_row _ _ _ _ _ _ hV⟩,fun V hV=>(hver V hV).2⟩)
  have hp1:=(Parts.start W0).add 4 (Part.box tb TO) hux hrow (fun q hq=>by rw [show q=tb from hq];exact htbl)
  obtain ⟨W2,hW2⟩:∃V,V=wc.alloc (.cells #[.slice none 0 0,.slice none 0 0] 90):=⟨_,rfl⟩
  obtain ⟨W3,hW3⟩:∃V,V=W2.alloc (.cells #[.slice none 0 0,.slice none 0 0] 93):=⟨_,rfl⟩
  obtain ⟨pb,hpb⟩:∃p,p=wc.heap.size:=⟨_,rfl⟩
  obtain ⟨pm,hpm⟩:∃p,p=W2.heap.size:=⟨_,rfl⟩
  have hvl:=VL.start hp1 Y (fun _=>⟨0,0,0,[],false,0,⟨0,0,0,0,0,0⟩⟩) W2 W3 hW2 hW3
  rw [←hpb,←hpm] at hvl
  have Jh:=hid hvl
  have Qr:=hid (show (setP (setP (setP (fun _=>Part.none) 4 (Part.box tb TO)) 2 (Part.book (B0 pb))) 3 (Part.metas (M0 pm))) 4=Part.box tb TO from by rw [setP_ne _ _ (by decide),setP_ne _ _ (by decide),setP_at])
  have Qs:=hid hW2;have Zn:=hid hW3;have Qt:=hid hpb
  have Qu:=hid (show pm=wc.heap.size+1 from by rw [hpm,hW2];simp)
  have hp1:=hp1
  clear hrow hux htbl hver hTO hp1 hW2 hW3 hpb hpm hvl
  clear c0 c1 c2 c3 c4 c5 c6 c7 c8 c9 c10 c11 c12 c13
  go_upto_region 4 with fail
  rw [←Qs.out,←Zn.out,show wc.heap.size+1=pm from Qu.out.symm,show wc.heap.size=pb from Qt.out.symm]
  go_wp2
  go_loopw [8,9] (fun dv iv wr=>∃i:Nat,i≤2∧iv=.int .i64 i∧∃(da:Option Addr) (dc:Nat) (dp:Nat→Nat) (P:Nat→Part) (D:Nat→DS),dv=.slice da i dc∧VL W0 wr i dp Y pb pm 0 P D (B0 pb) (M0 pm)∧P 4=Part.box tb TO∧P 6=Part.row (.slice da i dc) i (ptrs dp i)) (fun _ iv _=>2-(intOf iv).toNat)
  case atStart=>
   refine ⟨0,by omega,rfl,none,0,fun _=>0,_,_,rfl,(Jh.out.set (i:=6) (p:=Part.row (.slice none 0 0) 0 []) (by decide) (Jh.out.ps.join 6 _ (SRow.nil _ _ _) (fun q e=>by cases e))),?_,setP_at _ _ _⟩
   rw [setP_ne _ _ (by decide)]
   exact Qr.out
  case round=>
   obtain ⟨i,hi,rfl,da,dc,dp,P,D,rfl,hl,h4,h6⟩:=hrel
   have HL:=hid hl;have H4:=hid h4;have H6:=hid h6
   clear hl h4 h6
   by_cases hlt:i<2
   ·have hi2:((i:Int)<2):=by omega
    have Ji:=hid (new_yes wr 1048576 (by omega))
    go_wp2_with fail
    refine Ji.out.mono ?_
    rintro e w1 ⟨s,rfl,hs,habs,hblk,hu⟩
    have HS:=hid hs;have Jj:=hid habs;have Zo:=hid hblk;have HU:=hid hu
    have Kc:=hid (hu.get (HL.out.ps.of H4.out) (fun e=>e))
    have Jk:=hid (HL.out.ps.upd.trans hu (fun _ _ e=>e))
    obtain ⟨z0,z1,z2,z3,z4,z5,z6,hzc,hzv⟩:=Kr.out i hlt
    have Km:=hid (hzv w1 Jk.out)
    obtain ⟨q0,q1,q2,q3,q4,q5,q6⟩:=hzc w1 Kc.out
    have htl:tb<w1.heap.size:=lt_of_heap Kc.out
    obtain ⟨o1,o2,o3,o4⟩:=Ky.out i
    have hz0:((0:Int) != 0)=false:=by decide
    have Za:=hid (swap_any (HT.out.keep Jk.out) HS.out (fun e=>by have h1:=Zo.out 0 e;have h2:=HT.out.1;have h3:=HL.out.ps.upd.size;omega) oB (by decide) Km.out (lent_lim o2))
    obtain ⟨hs1,hs2⟩:=o_swap o1 o4 o3
    rw [Jj.out,hs1] at Za
    have Qv:=hid hs2
    obtain ⟨sp,hsp⟩:∃p,p=s.p:=⟨_,rfl⟩
    rw [←hsp] at Za⊢
    have Qw:=hid hsp
    clear hs habs hblk hu hzc hzv o1 o2 o3 o4 hs1 hs2 hsp Ji
    go_wp2_with fail
    refine (lawNum_any _ _ (by decide)).mono ?_
    rintro e W ⟨rfl,hww⟩
    obtain rfl:=hww.symm
    go_wp2_with fail
    refine Za.out.mono ?_
    rintro e w2 ⟨rfl,s2,hst,habs2⟩
    have Qx:=hid (HU.out.trans hst.upd (fun k hk e=>by have:=Zo.out k e;omega))
    have hl2:=HL.out.ptr (dp':=fun j=>if j=i then sp else dp j) (fun j hj=>if_neg (by omega))
    have Kf:=hid (hl2.newDisk Qx.out hst.ins (fun q hq=>(hst.foot q hq).elim (Zo.out q) (fun e=>by have:=HU.out.size;omega)) (by rw [if_pos rfl,Qw.out];exact hst.p) (by rw [habs2];exact Qv.out))
    clear hst habs2 hl2 Za q0 q1 q2 q3 q4 q5 q6
    go_wp2_with fail
    refine (lawNum_any _ _ (by decide)).mono ?_
    rintro e W ⟨rfl,hww⟩
    obtain rfl:=hww.symm
    have h6':(setP P (30+i) (Part.ds s2)) 6=Part.row (.slice da i dc) i (ptrs dp i):=by rw [setP_ne _ _ (by omega)];exact H6.out
    have h4':(setP P (30+i) (Part.ds s2)) 4=Part.box tb TO:=by rw [setP_ne _ _ (by omega)];exact H4.out
    have hrow:=Kf.out.ps.of h6'
    obtain ⟨dv',w3,hrun,hr3,hu3,ho3,-⟩:=rowDs.push (w:=w2) (M:=[.pointer (some ⟨sp,0,none⟩)]) hrow rfl (fun x hx=>by simp at hx;subst hx;rfl) (by omega) 94
    obtain ⟨da',dc',hdv,-,-,-⟩:=SRow.slice hr3
    have Jl:=hid (show (Builtin.append_ #[94,94] 94 #[.slice da i dc,.slice (some ⟨w2.heap.size,0,none⟩) 1 1]).run Tryz.prog (w2.alloc (.cells #[.pointer (some ⟨sp,0,none⟩)] 28))=.ok (.slice da' (i+1) dc') w3 from by rw [←hdv];exact hrun)
    have hps:=Kf.out.ps.turn 6 (Part.row (.slice da' (i+1) dc') (i+1) (ptrs (fun j=>if j=i then sp else dp j) (i+1))) hu3 (fun q _ e=>by rw [h6'];exact e) (by
     rw [hdv] at hr3
     rw [ptrs_succ,ptrs_same (dp:=dp) (fun j hj=>if_neg (by omega))]
     show SRow w3 28 1 _ _ (ptrs dp i ++ [.pointer (some ⟨(if i=i then sp else dp i),0,none⟩)])
     rw [if_pos rfl]
     exact hr3) (fun q hq=>by rw [h6'];exact ho3 q (by rw [hdv];exact hq))
    have Ke:=hid (Kf.out.set (by decide) hps)
    have Qy:=hid (setP_at (setP P (30+i) (Part.ds s2)) 6 (Part.row (.slice da' (i+1) dc') (i+1) (ptrs (fun j=>if j=i then sp else dp j) (i+1))))
    have Qz:=hid (show (setP (setP P (30+i) (Part.ds s2)) 6 (Part.row (.slice da' (i+1) dc') (i+1) (ptrs (fun j=>if j=i then sp else dp j) (i+1)))) 4=Part.box tb TO from by rw [setP_ne _ _ (by decide)];exact h4')
    clear h6' h4' hrow hrun hr3 hu3 ho3 hdv hps
    go_wp2_with (at_builtin;refine wpList_append_run rfl _ _ _ rfl rfl rfl Jl.out ?_)
    go_roundw
    case rel=>exact ⟨i+1,by omega,by go_num,da',dc',_,_,_,rfl,Ke.out,Qz.out,Qy.out⟩
    case measure=>simp [intOf];omega
   ·have hi2:¬((i:Int)<2):=by omega
    have hkd:i=2:=by omega
    have Kf:=hid (show VL W0 wr 2 dp Y pb pm 0 P D (B0 pb) (M0 pm) from by have h:=HL.out;rw [hkd] at h;exact h)
    obtain ⟨g,rfl⟩:∃g,da=some ⟨g,0,none⟩:=by
     obtain ⟨g,c,e,-,-⟩:=SRow.cell (HL.out.ps.of H6.out) (k:=0) (ptrs_at (by omega))
     injection e with e _ _
     exact ⟨g,e⟩
    have HG:=hid (show ∀(V:World) (P':Nat→Part),Parts W0 V P'→P' 6=Part.row (.slice (some ⟨g,0,none⟩) i dc) i (ptrs dp i)→∀j,j<2→g<V.heap.size∧V.cell? ⟨g,j,none⟩=some (.pointer (some ⟨dp j,0,none⟩)) from fun V P' h e j hj=>by
     obtain ⟨g',c,e1,e2,e3⟩:=SRow.cell (h.of e) (k:=j) (ptrs_at (by omega))
     injection e1 with e1 _ _
     injection e1 with e1
     injection e1 with e1
     subst e1
     exact ⟨e2,e3⟩)
    have hid1:(i:Int)≤9223372036854775807:=by omega
    obtain ⟨hic,hdc⟩:i≤dc∧dc≤9223372036854775807:=by
     obtain ⟨ao,c,e,e1,e2,-⟩:=SRow.slice (HL.out.ps.of H6.out)
     injection e with _ _ e3
     subst e3
     exact ⟨e1,e2⟩
    have Zp:=hid hkd
    clear hkd HL
    go_upto_region 12 with fail
    go_cut [12] (fun tv wx=>∃wb,tv=.pointer (some ⟨wb,0,none⟩)∧wx.heap[wb]? = some (.cells #[.int .i64 0,.int .i64 0,.int .i64 1,.int .i64 1,.int .i64 0,.int .i64 1] 95 (0,0))∧Upd (fun _=>False) wr wx∧wr.heap.size≤wb)
    case first=>
     go_wp2
     go_meet
     exact ⟨wr.heap.size,rfl,heap_alloc_new wr _,(Upd.refl _ _).alloc _,Nat.le_refl _⟩
    case rest=>
     obtain ⟨wb,rfl,hwrow,hwu,hwlo⟩:=hcut
     obtain ⟨WO,hWO⟩:∃O,O=Obj.cells #[.int .i64 0,.int .i64 0,.int .i64 1,.int .i64 1,.int .i64 0,.int .i64 1] 95 (0,0):=⟨_,rfl⟩
     rw [←hWO] at hwrow
     have Zf:=hid (show ∀n,n<6→∃i,i<2∧∀V:World,V.heap[wb]? = some WO→V.cell? ⟨wb,n,none⟩=some (.int .i64 ((i:Nat):Int)) from fun n hn=>by
      rcases (show n=0∨n=1∨n=2∨n=3∨n=4∨n=5 from by omega) with rfl|rfl|rfl|rfl|rfl|rfl
      ·exact ⟨0,by decide,fun V hV=>by rw [hWO] at hV;exact cell_of_row _ _ _ _ _ _ hV⟩
      ·exact ⟨0,by decide,fun V hV=>by rw [hWO] at hV;exact cell_of_row _ _ _ _ _ _ hV⟩
      ·exact ⟨1,by decide,fun V hV=>by rw [hWO] at hV;exact cell_of_row _ _ _ _ _ _ hV⟩
      ·exact ⟨1,by decide,fun V hV=>by rw [hWO] at hV;exact cell_of_row _ _ _ _ _ _ hV⟩
      ·exact ⟨0,by decide,fun V hV=>by rw [hWO] at hV;exact cell_of_row _ _ _ _ _ _ hV⟩
      ·exact ⟨1,by decide,fun V hV=>by rw [hWO] at hV;exact cell_of_row _ _ _ _ _ _ hV⟩)
     have Jm:=hid (Kf.out.set (i:=5) (p:=Part.box wb WO) (by decide) (Kf.out.ps.add 5 (Part.box wb WO) hwu hwrow (fun q hq=>by rw [show q=wb from hq];exact hwlo)))
     have Jn:=hid (show (setP P 5 (Part.box wb WO)) 4=Part.box tb TO from by rw [setP_ne _ _ (by decide)];exact H4.out)
     have Jo:=hid (show (setP P 5 (Part.box wb WO)) 6=Part.row (.slice (some ⟨g,0,none⟩) i dc) i (ptrs dp i) from by rw [setP_ne _ _ (by decide)];exact H6.out)
     clear hwrow hwu hwlo hWO Kf H4 H6
     go_wp2
     obtain ⟨kd,hkd⟩:∃k,k=i:=⟨_,rfl⟩
     go_loopw [13] (fun nv wr=>∃n:Nat,n≤6∧nv=.int .i64 n∧∃(P:Nat→Part) (D:Nat→DS) (B:KP) (M:KM),VL W0 wr 2 dp Y pb pm n P D B M∧P 4=Part.box tb TO∧P 5=Part.box wb WO∧P 6=Part.row (.slice (some ⟨g,0,none⟩) i dc) i (ptrs dp i)) (fun nv _=>6-(intOf nv).toNat)
     case atStart=>exact ⟨0,by omega,rfl,_,_,_,_,Jm.out,Jn.out,setP_at _ _ _,Jo.out⟩
     case round=>
      clear Jm Jn Jo hkd kd
      obtain ⟨n,hn,rfl,P',D',B,M,hl,h4,h5,h6⟩:=hrel
      have HL:=hid hl;have H4:=hid h4;have H5:=hid h5;have H6:=hid h6
      clear hl h4 h5 h6
      by_cases hlt:n<6
      ·have hn6:((n:Int)<6):=by omega
       obtain ⟨i',hi',hwc⟩:=Zf.out n hlt
       have yw:=hwc wr (HL.out.ps.of H5.out)
       obtain ⟨z0,z1,z2,z3,z4,z5,z6,hzc,hzv⟩:=Kr.out i' hi'
       have Kk:=hid hzc;have Km:=hid hzv;have Ki:=hid hi'
       have hii:((i':Int)<2):=by omega
       have hii2:((i':Int)<(i:Int)):=by have:=Zp.out;omega
       obtain ⟨q0,q1,q2,q3,q4,q5,q6⟩:=hzc wr (HL.out.ps.of H4.out)
       have htl:tb<wr.heap.size:=lt_of_heap (show wr.heap[tb]? = some TO from HL.out.ps.of H4.out)
       have hwbl:wb<wr.heap.size:=lt_of_heap (show wr.heap[wb]? = some WO from HL.out.ps.of H5.out)
       obtain ⟨o1,o2,o3,o4⟩:=Ky.out i'
       have Kj:=hid o1;have Jp:=hid o2;have Zq:=hid o4
       have Zr:=hid (encode_any (HT.out.keep HL.out.ps.upd) (Km.out wr HL.out.ps.upd) o1)
       obtain ⟨Z,hZ⟩:∃Z,Z=Y i':=⟨_,rfl⟩
       have Zb:=hid hZ
       rw [←hZ] at Km Kj Jp Zq Zr
       clear hwc hzc hzv o1 o2 o3 o4 hZ hi'
       go_wp2_with fail
       refine Zr.out.mono ?_
       rintro e w1 ⟨bv,rfl,hnb⟩
       have Zc:=hid (HL.out.set (i:=20) (p:=Part.data bv (encodeB Z)) (by decide) (HL.out.ps.add 20 (Part.data bv (encodeB Z)) hnb.upd hnb.data hnb.new))
       have Zs:=hid (decode_any (HT.out.keep Zc.out.ps.upd) hnb.data.bat (by have:=(encA_len Kj.out).1;omega))
       rw [decode_encode Kj.out Zq.out] at Zs
       obtain ⟨ba,bc,hbe,-,-⟩:=hnb.shape
       have Vt:=hid hbe
       have Vs:=hid (setP_at P' 20 (Part.data bv (encodeB Z)))
       clear hnb hbe yw q0 q1 q2 q3 q4 q5 q6 htl hwbl Zr
       go_wp2_with fail
       refine Zs.out.mono ?_
       rintro e w2 ⟨⟨vx,rfl,hown⟩,hu2⟩
       have hl2:=Zc.out.quiet hu2
       obtain ⟨st,rs,L,rfl,hxr,hxn,hl2⟩:=hl2.ver (i:=21) (j:=22) (by decide) (by decide) (by decide) (base:=w1.heap.size) (fun q hq=>Zc.out.ps.fresh hq) hown
       have Kf:=hid hl2;have Jq:=hid hxr;have Va:=hid hxn
       have h21:setP (setP (setP P' 20 (Part.data bv (encodeB Z))) 21 (Part.data st Z.state)) 22 (Part.runs rs L) 21=Part.data st Z.state:=by rw [setP_ne _ _ (by decide),setP_at]
       have h22:setP (setP (setP P' 20 (Part.data bv (encodeB Z))) 21 (Part.data st Z.state)) 22 (Part.runs rs L) 22=Part.runs rs L:=setP_at _ _ _
       obtain ⟨sa,sc,hse,-,-⟩:=DataIs.bat (show DataIs w2 st Z.state from hl2.ps.of h21)
       obtain ⟨ra,rc,hre⟩:=RunsOwn.slice (show RunsOwn w2 0 rs L from hl2.ps.of h22)
       obtain ⟨sl,hsl⟩:∃k,k=Z.state.length:=⟨_,rfl⟩
       obtain ⟨rl,hrl⟩:∃k,k=L.length:=⟨_,rfl⟩
       rw [←hsl] at hse
       rw [←hrl] at hre
       subst hse
       subst hre
       obtain ⟨PX,hPX⟩:∃O,O=Obj.cells #[.int .i64 Z.gen,.int .i64 Z.flushed,.int .i64 Z.next,.int .i64 Z.low,.int .i64 Z.clock,.slice sa sl sc,.slice ra rl rc] 25 (0,0):=⟨_,rfl⟩
       obtain ⟨px,hpx⟩:∃p,p=w2.heap.size:=⟨_,rfl⟩
       obtain ⟨W3,hW3⟩:∃V,V=w2.alloc PX:=⟨_,rfl⟩
       have hu3:Upd (fun _=>False) w2 W3:=by rw [hW3];exact (Upd.refl _ _).alloc _
       have hr3:W3.heap[px]? = some PX:=by rw [hW3,hpx];exact heap_alloc_new w2 _
       have Ke:=hid (Kf.out.set (i:=10) (p:=Part.box px PX) (by decide) (Kf.out.ps.add 10 (Part.box px PX) hu3 hr3 (fun q hq=>by rw [show q=px from hq,hpx];exact Nat.le_refl _)))
       have Zn:=hid hW3;have Kn:=hid hPX;have Jr:=hid hpx
       clear hu2 hown hxr hxn hl2 h21 h22 hsl hrl hu3 hr3 hW3 hPX hpx Zs
       go_upto_region 19 with fail
       rw [←Kn.out,←Zn.out,←Jr.out]
       obtain ⟨hg1,hg2⟩:=HG.out W3 _ Ke.out.ps (by rw [setP_ne _ _ (by decide),setP_ne _ _ (by decide),setP_ne _ _ (by decide),setP_ne _ _ (by decide)];exact H6.out) i' Ki.out
       obtain ⟨hf1,hf2⟩:=o_load (Ke.out.fl i' Ki.out) (by rw [←Zb.out];exact Kj.out) (by rw [←Zb.out];exact Zq.out)
       have Kd:=hid (load_own (HT.out.keep Ke.out.ps.upd) (Ke.out.dsIn Ki.out) (fun e=>by have h1:=Ke.out.dsLow Ki.out 0 e;have h2:=HT.out.1;omega) oB (by decide))
       rw [hf1,Ke.out.dp i' Ki.out,←Zb.out] at Kd
       have Zt:=hid hf2
       clear hf1 hf2
       go_wp2_with fail
       refine Kd.out.mono ?_
       rintro e w4 ⟨⟨vy,rfl,hown⟩,s4,hst4,habs4,hbl4⟩
       obtain ⟨hl4,hfr4⟩:=Ke.out.diskTold Ki.out hst4 (by rw [habs4];exact Zt.out) hbl4
       obtain ⟨sty,rsy,Ly,rfl,hyr,hyn,hl4⟩:=hl4.ver (i:=23) (j:=24) (by decide) (by decide) (by decide) (base:=W3.heap.size) hfr4 hown
       have Ks:=hid hl4;have Js:=hid hyr;have Vb:=hid hyn
       have h23:setP (setP (setP (setP (setP (setP (setP P' 20 (Part.data bv (encodeB Z))) 21 (Part.data (.slice sa sl sc) Z.state)) 22 (Part.runs (.slice ra rl rc) L)) 10 (Part.box px PX)) (30+i') (Part.ds s4)) 23 (Part.data sty Z.state)) 24 (Part.runs rsy Ly) 23=Part.data sty Z.state:=by rw [setP_ne _ _ (by decide),setP_at]
       have h24:setP (setP (setP (setP (setP (setP (setP P' 20 (Part.data bv (encodeB Z))) 21 (Part.data (.slice sa sl sc) Z.state)) 22 (Part.runs (.slice ra rl rc) L)) 10 (Part.box px PX)) (30+i') (Part.ds s4)) 23 (Part.data sty Z.state)) 24 (Part.runs rsy Ly) 24=Part.runs rsy Ly:=setP_at _ _ _
       obtain ⟨ta,tc,hse,-,-⟩:=DataIs.bat (show DataIs w4 sty Z.state from hl4.ps.of h23)
       obtain ⟨ua,uc,hre⟩:=RunsOwn.slice (show RunsOwn w4 0 rsy Ly from hl4.ps.of h24)
       obtain ⟨tl,htl⟩:∃k,k=Z.state.length:=⟨_,rfl⟩
       obtain ⟨ul,hul⟩:∃k,k=Ly.length:=⟨_,rfl⟩
       rw [←htl] at hse
       rw [←hul] at hre
       subst hse
       subst hre
       obtain ⟨PY,hPY⟩:∃O,O=Obj.cells #[.int .i64 Z.gen,.int .i64 Z.flushed,.int .i64 Z.next,.int .i64 Z.low,.int .i64 Z.clock,.slice ta tl tc,.slice ua ul uc] 25 (0,0):=⟨_,rfl⟩
       obtain ⟨py,hpy⟩:∃p,p=w4.heap.size:=⟨_,rfl⟩
       obtain ⟨W5,hW5⟩:∃V,V=w4.alloc PY:=⟨_,rfl⟩
       have hu5:Upd (fun _=>False) w4 W5:=by rw [hW5];exact (Upd.refl _ _).alloc _
       have hr5:W5.heap[py]? = some PY:=by rw [hW5,hpy];exact heap_alloc_new w4 _
       have hl5:=Ks.out.set (i:=11) (p:=Part.box py PY) (by decide) (Ks.out.ps.add 11 (Part.box py PY) hu5 hr5 (fun q hq=>by rw [show q=py from hq,hpy];exact Nat.le_refl _))
       have Vc:=hid hW5;have Kg:=hid hPY;have Ku:=hid hpy
       obtain ⟨Q,hQ⟩:∃Q:Nat→Part,Q=setP (setP (setP (setP (setP (setP (setP (setP P' 20 (Part.data bv (encodeB Z))) 21 (Part.data (.slice sa sl sc) Z.state)) 22 (Part.runs (.slice ra rl rc) L)) 10 (Part.box px PX)) (30+i') (Part.ds s4)) 23 (Part.data (.slice ta tl tc) Z.state)) 24 (Part.runs (.slice ua ul uc) Ly)) 11 (Part.box py PY):=⟨_,rfl⟩
       rw [←hQ] at hl5
       have Vd:=hid (hl5.more (Nat.le_succ n))
       have Kv:=hid (show B.ls.length≤3*n∧M.ls.length≤2*n from ⟨hl5.bl,hl5.ml⟩)
       have HQ:=hid (show Q 4=Part.box tb TO∧Q 5=Part.box wb WO∧Q 6=Part.row (.slice (some ⟨g,0,none⟩) i dc) i (ptrs dp i)∧Q 10=Part.box px PX∧Q 11=Part.box py PY∧Q 20=Part.data bv (encodeB Z)∧Q 21=Part.data (.slice sa sl sc) Z.state∧Q 22=Part.runs (.slice ra rl rc) L∧Q 23=Part.data (.slice ta tl tc) Z.state∧Q 24=Part.runs (.slice ua ul uc) Ly from by
        rw [hQ]
        refine ⟨?_,?_,?_,?_,?_,?_,?_,?_,?_,?_⟩
        ·repeat rw [setP_ne _ _ (by omega)]
         exact H4.out
        ·repeat rw [setP_ne _ _ (by omega)]
         exact H5.out
        ·repeat rw [setP_ne _ _ (by omega)]
         exact H6.out
        ·rw [setP_ne _ _ (by omega),setP_ne _ _ (by omega),setP_ne _ _ (by omega),setP_ne _ _ (by omega),setP_at]
        ·rw [setP_at]
        ·rw [setP_ne _ _ (by omega),setP_ne _ _ (by omega),setP_ne _ _ (by omega),setP_ne _ _ (by omega),setP_ne _ _ (by omega),setP_ne _ _ (by omega),setP_ne _ _ (by omega),setP_at]
        ·rw [setP_ne _ _ (by omega),setP_ne _ _ (by omega),setP_ne _ _ (by omega),setP_ne _ _ (by omega),setP_ne _ _ (by omega),setP_ne _ _ (by omega),setP_at]
        ·rw [setP_ne _ _ (by omega),setP_ne _ _ (by omega),setP_ne _ _ (by omega),setP_ne _ _ (by omega),setP_ne _ _ (by omega),setP_at]
        ·rw [setP_ne _ _ (by omega),setP_ne _ _ (by omega),setP_at]
        ·rw [setP_ne _ _ (by omega),setP_at])
       clear hst4 habs4 hbl4 hfr4 hown hyr hyn hl4 h23 h24 htl hul hu5 hr5 hW5 hPY hpy hl5 hQ hg1 hg2 Kd HL Zc Kf Ke Ks
       go_upto_region 20 with fail
       rw [←Kg.out,←Vc.out,←Ku.out]
       have Ko:=hid (Vd.out.quiet ((Upd.refl (fun _=>False) W5).drew))
       have hHeld:(fun V=>V.heap[tb]? = some TO∧V.heap[px]? = some PX∧V.heap[py]? = some PY) W5.drew:=⟨Ko.out.ps.of HQ.out.1,Ko.out.ps.of HQ.out.2.2.2.1,Ko.out.ps.of HQ.out.2.2.2.2.1⟩
       have Jt:=hid (lent_runs Kj.out)
       have Kp:=hid (sameVer_any (Ko.out.verAt HQ.out.2.2.2.2.2.2.1 HQ.out.2.2.2.2.2.2.2.1 Jq.out) (Km.out _ Ko.out.ps.upd) Jt.out)
       rw [show sameVerB Z Z=true from sameVerB_iff.2 rfl] at Kp
       refine wp_region_l (fun V=>V.heap[tb]? = some TO∧V.heap[px]? = some PX∧V.heap[py]? = some PY) 32 33 rfl (by kernel_rfl) ?_
       refine' tk 0 [1,2,3,4,5,6,7,8,9,10,11,12,13,14,15,16,17,18,19,20,21,22,23,24,25,26,27,28,29,30,31,32] (y:=?y20_0) (r:=?r20_0)
       case y20_0=>(intro wS hSw;go_simp;(try with_reducible rfl))
       (try simp only [Act.put,sA,sZ,sS])
       refine wpAnyL_one 1 rfl (by kernel_rfl) (fun K hK=>?_)
       go_simp
       go_at_call 13
       refine (lawNum_any _ _ (by decide)).mono ?_
       rintro e W ⟨rfl,hww⟩
       obtain rfl:=hww.symm
       refine hK.out _ _ (fun _=>hHeld) ?_
       clear hK K
       (try simp only [Act.put,sA,sZ,sS])
       refine' tk 2 [3,4,5,6,7,8,9,10,11,12,13,14,15,16,17,18,19,20,21,22,23,24,25,26,27,28,29,30,31,32] (y:=?y20_2) (r:=?r20_2)
       case y20_2=>(intro wS hSw;go_simp;(try with_reducible rfl))
       (try simp only [Act.put,sA,sZ,sS])
       refine' tk 3 [4,5,6,7,8,9,10,11,12,13,14,15,16,17,18,19,20,21,22,23,24,25,26,27,28,29,30,31,32] (y:=?y20_3) (r:=?r20_3)
       case y20_3=>(intro wS hSw;go_simp;(try with_reducible rfl))
       (try simp only [Act.put,sA,sZ,sS])
       refine' tk 4 [5,6,7,8,9,10,11,12,13,14,15,16,17,18,19,20,21,22,23,24,25,26,27,28,29,30,31,32] (y:=?y20_4) (r:=?r20_4)
       case y20_4=>(intro wS hSw;go_simp;(try with_reducible rfl))
       (try simp only [Act.put,sA,sZ,sS])
       refine wpAnyL_one 5 rfl (by kernel_rfl) (fun K hK=>?_)
       go_simp
       go_at_call 13
       refine (lawNum_any _ _ (by decide)).mono ?_
       rintro e W ⟨rfl,hww⟩
       obtain rfl:=hww.symm
       refine hK.out _ _ (fun _=>hHeld) ?_
       clear hK K
       (try simp only [Act.put,sA,sZ,sS])
       refine' tk 6 [7,8,9,10,11,12,13,14,15,16,17,18,19,20,21,22,23,24,25,26,27,28,29,30,31,32] (y:=?y20_6) (r:=?r20_6)
       case y20_6=>(intro wS hSw;go_simp;(try with_reducible rfl))
       (try simp only [Act.put,sA,sZ,sS])
       refine' tk 7 [8,9,10,11,12,13,14,15,16,17,18,19,20,21,22,23,24,25,26,27,28,29,30,31,32] (y:=?y20_7) (r:=?r20_7)
       case y20_7=>(intro wS hSw;go_simp;(try with_reducible rfl))
       (try simp only [Act.put,sA,sZ,sS])
       refine' tk 8 [9,10,11,12,13,14,15,16,17,18,19,20,21,22,23,24,25,26,27,28,29,30,31,32] (y:=?y20_8) (r:=?r20_8)
       case y20_8=>(intro wS hSw;go_simp;(try with_reducible rfl))
       (try simp only [Act.put,sA,sZ,sS])
       refine' tk 9 [10,11,12,13,14,15,16,17,18,19,20,21,22,23,24,25,26,27,28,29,30,31,32] (y:=?y20_9) (r:=?r20_9)
       case y20_9=>(intro wS hSw;go_simp;(try with_reducible rfl))
       (try simp only [Act.put,sA,sZ,sS])
       refine wpAnyL_one 10 rfl (by kernel_rfl) (fun K hK=>?_)
       go_simp
       go_at_call 13
       refine (lawNum_any _ _ (by decide)).mono ?_
       rintro e W ⟨rfl,hww⟩
       obtain rfl:=hww.symm
       refine hK.out _ _ (fun _=>hHeld) ?_
       clear hK K
       (try simp only [Act.put,sA,sZ,sS])
       refine' tk 11 [12,13,14,15,16,17,18,19,20,21,22,23,24,25,26,27,28,29,30,31,32] (y:=?y20_11) (r:=?r20_11)
       case y20_11=>(intro wS hSw;go_simp;(try with_reducible rfl))
       (try simp only [Act.put,sA,sZ,sS])
       refine' tk 12 [13,14,15,16,17,18,19,20,21,22,23,24,25,26,27,28,29,30,31,32] (y:=?y20_12) (r:=?r20_12)
       case y20_12=>(intro wS hSw;go_simp;(try with_reducible rfl))
       (try simp only [Act.put,sA,sZ,sS])
       refine' tk 13 [14,15,16,17,18,19,20,21,22,23,24,25,26,27,28,29,30,31,32] (y:=?y20_13) (r:=?r20_13)
       case y20_13=>(intro wS hSw;go_simp;(try with_reducible rfl))
       (try simp only [Act.put,sA,sZ,sS])
       refine' tk 14 [15,16,17,18,19,20,21,22,23,24,25,26,27,28,29,30,31,32] (y:=?y20_14) (r:=?r20_14)
       case y20_14=>(intro wS hSw;go_simp;(try with_reducible rfl))
       (try simp only [Act.put,sA,sZ,sS])
       refine' tk 15 [16,17,18,19,20,21,22,23,24,25,26,27,28,29,30,31,32] (y:=?y20_15) (r:=?r20_15)
       case y20_15=>(intro wS hSw;go_simp;(try with_reducible rfl))
       (try simp only [Act.put,sA,sZ,sS])
       refine' tk 16 [17,18,19,20,21,22,23,24,25,26,27,28,29,30,31,32] (y:=?y20_16) (r:=?r20_16)
       case y20_16=>(intro wS hSw;go_simp;(try with_reducible rfl))
       (try simp only [Act.put,sA,sZ,sS])
       refine' tk 17 [18,19,20,21,22,23,24,25,26,27,28,29,30,31,32] (y:=?y20_17) (r:=?r20_17)
       case y20_17=>(intro wS hSw;go_simp;(try with_reducible rfl))
       (try simp only [Act.put,sA,sZ,sS])
       refine' tk 18 [22,23,24,25,26,27,28,29,30,31,32] (y:=?y20_18) (r:=?r20_18)
       case y20_18=>(intro wS hSw;obtain ⟨g0,g1,g2⟩:=hSw;obtain ⟨q0,q1,q2,q3,q4,q5,q6⟩:=Kk.out wS g0;obtain ⟨⟨r0,r1,r2,r3,r4,r5,r6⟩,-,-⟩:=verCells (g1.trans (congrArg some Kn.out));obtain ⟨⟨y0,y1,y2,y3,y4,y5,y6⟩,-,-⟩:=verCells (g2.trans (congrArg some Kg.out));go_simp;(try with_reducible rfl))
       (try simp only [Act.put,sA,sZ,sS])
       refine' tk 19 [20,21,22,23,24,25,26,27,28,29,30,31,32] (y:=?y20_19) (r:=?r20_19)
       case y20_19=>(intro wS hSw;go_simp;(try with_reducible rfl))
       (try simp only [Act.put,sA,sZ,sS])
       refine' tk 20 [21,22,23,24,25,26,27,28,29,30,31,32] (y:=?y20_20) (r:=?r20_20)
       case y20_20=>(intro wS hSw;go_simp;(try with_reducible rfl))
       (try simp only [Act.put,sA,sZ,sS])
       refine' tk 21 [22,23,24,25,26,27,28,29,30,31,32] (y:=?y20_21) (r:=?r20_21)
       case y20_21=>(intro wS hSw;obtain ⟨g0,g1,g2⟩:=hSw;obtain ⟨q0,q1,q2,q3,q4,q5,q6⟩:=Kk.out wS g0;obtain ⟨⟨r0,r1,r2,r3,r4,r5,r6⟩,-,-⟩:=verCells (g1.trans (congrArg some Kn.out));obtain ⟨⟨y0,y1,y2,y3,y4,y5,y6⟩,-,-⟩:=verCells (g2.trans (congrArg some Kg.out));go_simp;(try with_reducible rfl))
       (try simp only [Act.put,sA,sZ,sS])
       refine wpAnyL_one 22 rfl (by kernel_rfl) (fun K hK=>?_)
       go_simp
       go_at_call 24
       refine Kp.out.mono ?_
       rintro e W6 ⟨rfl,hu6⟩
       have Kq:=hid (Ko.out.quiet hu6)
       have Zu:=hid (sameVer_any (Kq.out.verAt HQ.out.2.2.2.2.2.2.2.2.1 HQ.out.2.2.2.2.2.2.2.2.2 Js.out) (Km.out _ Kq.out.ps.upd) Jt.out)
       rw [show sameVerB Z Z=true from sameVerB_iff.2 rfl] at Zu
       have hHeld6:(fun V=>V.heap[tb]? = some TO∧V.heap[px]? = some PX∧V.heap[py]? = some PY) W6:=⟨Kq.out.ps.of HQ.out.1,Kq.out.ps.of HQ.out.2.2.2.1,Kq.out.ps.of HQ.out.2.2.2.2.1⟩
       clear hu6 Ko Kp
       refine hK.out _ _ (fun _=>hHeld6) ?_
       clear hK K
       (try simp only [Act.put,sA,sZ,sS])
       refine' tk 23 [24,25,26,27,28,29,30,31,32] (y:=?y20_23) (r:=?r20_23)
       case y20_23=>(intro wS hSw;go_simp;(try with_reducible rfl))
       (try simp only [Act.put,sA,sZ,sS])
       refine' tk 24 [25,26,27,28,29,30,31,32] (y:=?y20_24) (r:=?r20_24)
       case y20_24=>(intro wS hSw;go_simp;(try with_reducible rfl))
       (try simp only [Act.put,sA,sZ,sS])
       refine' tk 25 [32] (y:=?y20_25) (r:=?r20_25)
       case y20_25=>(intro wS hSw;go_simp;(try with_reducible rfl))
       (try simp only [Act.put,sA,sZ,sS])
       refine' tk 26 [30,31,32] (y:=?y20_26) (r:=?r20_26)
       case y20_26=>(intro wS hSw;obtain ⟨g0,g1,g2⟩:=hSw;obtain ⟨q0,q1,q2,q3,q4,q5,q6⟩:=Kk.out wS g0;obtain ⟨⟨r0,r1,r2,r3,r4,r5,r6⟩,-,-⟩:=verCells (g1.trans (congrArg some Kn.out));obtain ⟨⟨y0,y1,y2,y3,y4,y5,y6⟩,-,-⟩:=verCells (g2.trans (congrArg some Kg.out));go_simp;(try with_reducible rfl))
       (try simp only [Act.put,sA,sZ,sS])
       refine' tk 27 [28,29,30,31,32] (y:=?y20_27) (r:=?r20_27)
       case y20_27=>(intro wS hSw;go_simp;(try with_reducible rfl))
       (try simp only [Act.put,sA,sZ,sS])
       refine' tk 28 [29,30,31,32] (y:=?y20_28) (r:=?r20_28)
       case y20_28=>(intro wS hSw;go_simp;(try with_reducible rfl))
       (try simp only [Act.put,sA,sZ,sS])
       refine' tk 29 [30,31,32] (y:=?y20_29) (r:=?r20_29)
       case y20_29=>(intro wS hSw;obtain ⟨g0,g1,g2⟩:=hSw;obtain ⟨q0,q1,q2,q3,q4,q5,q6⟩:=Kk.out wS g0;obtain ⟨⟨r0,r1,r2,r3,r4,r5,r6⟩,-,-⟩:=verCells (g1.trans (congrArg some Kn.out));obtain ⟨⟨y0,y1,y2,y3,y4,y5,y6⟩,-,-⟩:=verCells (g2.trans (congrArg some Kg.out));go_simp;(try with_reducible rfl))
       (try simp only [Act.put,sA,sZ,sS])
       refine wpAnyL_one 30 rfl (by kernel_rfl) (fun K hK=>?_)
       go_simp
       go_at_call 24
       refine Zu.out.mono ?_
       rintro e W7 ⟨rfl,hu7⟩
       have Zd:=hid (Kq.out.quiet hu7)
       have hHeld7:(fun V=>V.heap[tb]? = some TO∧V.heap[px]? = some PX∧V.heap[py]? = some PY) W7:=⟨Zd.out.ps.of HQ.out.1,Zd.out.ps.of HQ.out.2.2.2.1,Zd.out.ps.of HQ.out.2.2.2.2.1⟩
       clear hu7 Kq Zu
       refine hK.out _ _ (fun _=>hHeld7) ?_
       clear hK K
       (try simp only [Act.put,sA,sZ,sS])
       refine' tk 31 [32] (y:=?y20_31) (r:=?r20_31)
       case y20_31=>(intro wS hSw;go_simp;(try with_reducible rfl))
       (try simp only [Act.put,sA,sZ,sS])
       refine wpAnyL_one 32 rfl (by kernel_rfl) (fun K hK=>?_)
       go_simp
       refine hK.out _ _ (fun h=>absurd rfl h) ?_
       clear hK K
       (try simp only [Act.put,sA,sZ,sS])
       refine wpAnyL_done (by kernel_rfl) ?_ _
       have hd7:=Zd.out
       have Zv:=hid (show (encodeB Z).length≤1000000000∧Z.state.length≤1000000000 from ⟨by have:=(encA_len Kj.out).1;omega,lent_state Kj.out⟩)
       have Ju:=hid (lent_metas Kj.out Jp.out)
       have Zw:=hid hlt
       have Jv:=hid (hd7.keepB (i:=20) (by decide) HQ.out.2.2.2.2.2.1 Zv.out.1 (by omega) (by have:=Kv.out.1;omega))
       clear hd7 hHeld hHeld6 hHeld7
       go_wp2_with fail
       refine Jv.out.mono ?_
       rintro e w8 ⟨rfl,B1,hb1,hl8⟩
       have Zx:=hid hl8;have Jw:=hid hb1
       have k21:setP (setP Q 20 Part.none) 2 (Part.book B1) 21=Part.data (.slice sa sl sc) Z.state:=by rw [setP_ne _ _ (by omega),setP_ne _ _ (by omega)];exact HQ.out.2.2.2.2.2.2.1
       have k10:setP (setP Q 20 Part.none) 2 (Part.book B1) 10=Part.box px PX:=by rw [setP_ne _ _ (by omega),setP_ne _ _ (by omega)];exact HQ.out.2.2.2.1
       have Jx:=hid (hl8.keepB (i:=21) (by decide) k21 Zv.out.2 (by omega) (by have:=Kv.out.1;have:=Jw.out;omega))
       obtain ⟨⟨r0,r1,r2,r3,r4,r5,r6⟩,-,hrl⟩:=verCells ((hl8.ps.of k10:w8.heap[px]? = some PX).trans (congrArg some Kn.out))
       clear hb1 hl8 k21 k10 Jv
       go_wp2_with fail
       refine Jx.out.mono ?_
       rintro e w9 ⟨rfl,B2,hb2,hl9⟩
       have Ve:=hid hl9;have Vf:=hid hb2
       have k23:setP (setP (setP (setP Q 20 Part.none) 2 (Part.book B1)) 21 Part.none) 2 (Part.book B2) 23=Part.data (.slice ta tl tc) Z.state:=by rw [setP_ne _ _ (by omega),setP_ne _ _ (by omega),setP_ne _ _ (by omega),setP_ne _ _ (by omega)];exact HQ.out.2.2.2.2.2.2.2.2.1
       have k11:setP (setP (setP (setP Q 20 Part.none) 2 (Part.book B1)) 21 Part.none) 2 (Part.book B2) 11=Part.box py PY:=by rw [setP_ne _ _ (by omega),setP_ne _ _ (by omega),setP_ne _ _ (by omega),setP_ne _ _ (by omega)];exact HQ.out.2.2.2.2.1
       have Jy:=hid (hl9.keepB (i:=23) (by decide) k23 Zv.out.2 (by omega) (by have:=Kv.out.1;have:=Jw.out;have:=Vf.out;omega))
       clear r0 r1 r2 r3 r4 r5 r6 hrl
       obtain ⟨⟨r0,r1,r2,r3,r4,r5,r6⟩,-,hrl⟩:=verCells ((hl9.ps.of k11:w9.heap[py]? = some PY).trans (congrArg some Kg.out))
       clear hb2 hl9 k23 k11 Jx Zx
       go_wp2_with fail
       refine Jy.out.mono ?_
       rintro e w10 ⟨rfl,B3,hb3,hl10⟩
       have Zg:=hid hl10;have Vu:=hid hb3
       obtain ⟨Q3,hQ3⟩:∃Q3:Nat→Part,Q3=setP (setP (setP (setP (setP (setP Q 20 Part.none) 2 (Part.book B1)) 21 Part.none) 2 (Part.book B2)) 23 Part.none) 2 (Part.book B3):=⟨_,rfl⟩
       have Kw:=hid (show ∀j,j≠2→j≠20→j≠21→j≠23→Q3 j=Q j from fun j h1 h2 h3 h4=>by
        rw [hQ3,setP_ne _ _ h1,setP_ne _ _ h4,setP_ne _ _ h1,setP_ne _ _ h3,setP_ne _ _ h1,setP_ne _ _ h2])
       rw [←hQ3] at hl10 Zg
       have k22:Q3 22=Part.runs (.slice ra rl rc) L:=by rw [Kw.out 22 (by omega) (by omega) (by omega) (by omega)];exact HQ.out.2.2.2.2.2.2.2.1
       have k10:Q3 10=Part.box px PX:=by rw [Kw.out 10 (by omega) (by omega) (by omega) (by omega)];exact HQ.out.2.2.2.1
       have Jz:=hid (hl10.keepM (i:=22) (by decide) k22 Va.out (Ju.out L Jq.out) (by omega) (by have:=Kv.out.2;omega))
       clear r0 r1 r2 r3 r4 r5 r6 hrl
       obtain ⟨⟨r0,r1,r2,r3,r4,r5,r6⟩,-,hrl⟩:=verCells ((hl10.ps.of k10:w10.heap[px]? = some PX).trans (congrArg some Kn.out))
       clear hb3 hl10 k22 k10 hQ3 Jy Ve
       go_wp2_with fail
       refine Jz.out.mono ?_
       rintro e w11 ⟨rfl,M1,hm1',hl11⟩
       have Qa:=hid hl11;have Vg:=hid hm1'
       have k24:setP (setP Q3 22 Part.none) 3 (Part.metas M1) 24=Part.runs (.slice ua ul uc) Ly:=by rw [setP_ne _ _ (by omega),setP_ne _ _ (by omega),Kw.out 24 (by omega) (by omega) (by omega) (by omega)];exact HQ.out.2.2.2.2.2.2.2.2.2
       have k11:setP (setP Q3 22 Part.none) 3 (Part.metas M1) 11=Part.box py PY:=by rw [setP_ne _ _ (by omega),setP_ne _ _ (by omega),Kw.out 11 (by omega) (by omega) (by omega) (by omega)];exact HQ.out.2.2.2.2.1
       have Qb:=hid (hl11.keepM (i:=24) (by decide) k24 Vb.out (Ju.out Ly Js.out) (by omega) (by have:=Kv.out.2;have:=Vg.out;omega))
       clear r0 r1 r2 r3 r4 r5 r6 hrl
       obtain ⟨⟨r0,r1,r2,r3,r4,r5,r6⟩,-,hrl⟩:=verCells ((hl11.ps.of k11:w11.heap[py]? = some PY).trans (congrArg some Kg.out))
       clear hm1' hl11 k24 k11 Jz Zg
       go_wp2_with fail
       refine Qb.out.mono ?_
       rintro e w12 ⟨rfl,M2,hm2',hl12⟩
       have Qc:=hid hl12
       have HE:=hid (show ∀j,j≠2→j≠3→j≠20→j≠21→j≠22→j≠23→j≠24→setP (setP (setP (setP Q3 22 Part.none) 3 (Part.metas M1)) 24 Part.none) 3 (Part.metas M2) j=Q j from fun j h2 h3 h20 h21 h22 h23 h24=>by
        rw [setP_ne _ _ h3,setP_ne _ _ h24,setP_ne _ _ h3,setP_ne _ _ h22,Kw.out j h2 h20 h21 h23])
       clear hm2' hl12 Qb Qa r0 r1 r2 r3 r4 r5 r6 hrl
       go_wp2
       go_roundw
       case rel=>exact ⟨n+1,by omega,by go_num,_,_,_,_,Qc.out,(HE.out 4 (by omega) (by omega) (by omega) (by omega) (by omega) (by omega) (by omega)).trans HQ.out.1,(HE.out 5 (by omega) (by omega) (by omega) (by omega) (by omega) (by omega) (by omega)).trans HQ.out.2.1,(HE.out 6 (by omega) (by omega) (by omega) (by omega) (by omega) (by omega) (by omega)).trans HQ.out.2.2.1⟩
       case measure=>simp [intOf];omega
      ·have hn6:¬((n:Int)<6):=by omega
       obtain ⟨wn,rfl⟩:∃wn,wn=wr:=⟨_,rfl⟩
       have Zy:=hid (HL.out.more (c':=6) hn)
       obtain ⟨W7,hW7⟩:∃V,V=wn.alloc (.cells #[.slice none 0 0,.slice none 0 0] 101):=⟨_,rfl⟩
       obtain ⟨pn,hpn⟩:∃p,p=wn.heap.size:=⟨_,rfl⟩
       have hu7:Upd (fun _=>False) wn W7:=by rw [hW7];exact (Upd.refl _ _).alloc _
       have Qd:=hid (Zy.out.set (i:=12) (p:=Part.names (B0 pn)) (by decide) (Zy.out.ps.add 12 (Part.names (B0 pn)) hu7 (kp_new (by rw [hW7,hpn];exact heap_alloc_new wn _)) (fun q hq=>by rw [kp_own hq,hpn];exact Nat.le_refl _)))
       have Qe:=hid (show (setP P' 12 (Part.names (B0 pn))) 4=Part.box tb TO from by rw [setP_ne _ _ (by decide)];exact H4.out)
       have Qf:=hid (show (setP P' 12 (Part.names (B0 pn))) 5=Part.box wb WO from by rw [setP_ne _ _ (by decide)];exact H5.out)
       have Zw:=hid (show (setP P' 12 (Part.names (B0 pn))) 6=Part.row (.slice (some ⟨g,0,none⟩) i dc) i (ptrs dp i) from by rw [setP_ne _ _ (by decide)];exact H6.out)
       have Vh:=hid hW7;have Vi:=hid hpn
       clear hW7 hpn hu7 HL Zy H4 H5 H6
       go_upto_region 28 with fail
       rw [←Vh.out,←Vi.out]
       go_wp2
       go_loopw [23] (fun nv wr=>∃n:Nat,n≤6∧nv=.int .i64 n∧∃(P:Nat→Part) (D:Nat→DS) (N:KP),VL W0 wr 2 dp Y pb pm 6 P D B M∧P 4=Part.box tb TO∧P 5=Part.box wb WO∧P 6=Part.row (.slice (some ⟨g,0,none⟩) i dc) i (ptrs dp i)∧P 12=Part.names N∧N.p=pn∧N.ls.length≤n∧∀x∈N.ls,∃l:List ByteArray,x.xs=l.map Value.string∧x.ys=l.map Value.string) (fun nv _=>6-(intOf nv).toNat)
       case atStart=>exact ⟨0,by omega,rfl,_,_,_,Qd.out,Qe.out,Qf.out,Zw.out,setP_at _ _ _,rfl,Nat.le_refl _,fun x hx=>by cases hx⟩
       case round=>
        clear Qd Qe Qf Zw hn6
        obtain ⟨n',hn',rfl,P2,D2,N,hl,h4,h5,h6,h12,hnp,hnl,hns⟩:=hrel
        obtain ⟨wo,rfl⟩:∃wo,wo=wr:=⟨_,rfl⟩
        have HL:=hid (hl.quiet ((Upd.refl (fun _=>False) wo).drew));have Qg:=hid hl;have H4:=hid h4;have H5:=hid h5;have H6:=hid h6;have Kx:=hid h12;have Zz:=hid hnp;have Ja:=hid hnl;have Qh:=hid hns
        clear hl h4 h5 h6 h12 hnp hnl hns
        by_cases hlt:n'<6
        ·have hn7:((n':Int)<6):=by omega
         obtain ⟨i',hi',hwc⟩:=Zf.out n' hlt
         have Qi:=hid hwc;have Ki:=hid hi'
         obtain ⟨z0,z1,z2,z3,z4,z5,z6,hzc,hzv⟩:=Kr.out i' hi'
         have Kk:=hid hzc
         have hii:((i':Int)<2):=by omega
         have hii2:((i':Int)<(i:Int)):=by have:=Zp.out;omega
         obtain ⟨o1,o2,o3,o4⟩:=Ky.out i'
         have Jb:=hid (orphans_any (x:=Y i') HL.out.ps.upd HP.out (HL.out.dsIn hi') (HL.out.ps.of Kx.out) (HL.out.dsLow hi') (fun q hq=>⟨HL.out.ps.low 12 q (by rw [Kx.out];exact hq),fun e=>by
          have:=HL.out.ps.one (i:=12) (j:=30+i') (q:=q) (by rw [Kx.out];exact hq) (by rw [HL.out.ds i' hi'];exact e)
          omega⟩) (hzv W0 (Upd.refl _ _)) o2 o1 (HL.out.fl i' hi') (by have:=Ja.out;omega))
         rw [HL.out.dp i' hi',Zz.out] at Jb
         clear hwc hzc hzv o1 o2 o3 o4 hi'
         go_upto_region 31 with fail
         have hHeld:(fun V=>V.heap[tb]? = some TO∧V.heap[wb]? = some WO∧V.cell? ⟨g,i',none⟩=some (.pointer (some ⟨dp i',0,none⟩))) wo.drew:=⟨HL.out.ps.of H4.out,HL.out.ps.of H5.out,(HG.out _ _ HL.out.ps H6.out i' Ki.out).2⟩
         refine wp_region_l (fun V=>V.heap[tb]? = some TO∧V.heap[wb]? = some WO∧V.cell? ⟨g,i',none⟩=some (.pointer (some ⟨dp i',0,none⟩))) 13 14 rfl (by kernel_rfl) ?_
         refine' tk 0 [13] (y:=?y31_0) (r:=?r31_0)
         case y31_0=>(intro wS hSw;go_simp;(try with_reducible rfl))
         (try simp only [Act.put,sA,sZ,sS])
         refine' tk 1 [13] (y:=?y31_1) (r:=?r31_1)
         case y31_1=>(intro wS hSw;go_simp;(try with_reducible rfl))
         (try simp only [Act.put,sA,sZ,sS])
         refine' tk 2 [13] (y:=?y31_2) (r:=?r31_2)
         case y31_2=>(intro wS hSw;go_simp;(try with_reducible rfl))
         (try simp only [Act.put,sA,sZ,sS])
         refine' tk 3 [13] (y:=?y31_3) (r:=?r31_3)
         case y31_3=>(intro wS hSw;obtain ⟨g0,g1,g2⟩:=hSw;have q0:=Qi.out wS g1;go_simp;(try with_reducible rfl))
         (try simp only [Act.put,sA,sZ,sS])
         refine' tk 4 [13] (y:=?y31_4) (r:=?r31_4)
         case y31_4=>(intro wS hSw;go_simp;(try with_reducible rfl))
         (try simp only [Act.put,sA,sZ,sS])
         refine' tk 5 [13] (y:=?y31_5) (r:=?r31_5)
         case y31_5=>(intro wS hSw;obtain ⟨g0,g1,g2⟩:=hSw;go_simp;(try with_reducible rfl))
         (try simp only [Act.put,sA,sZ,sS])
         refine' tk 6 [13] (y:=?y31_6) (r:=?r31_6)
         case y31_6=>(intro wS hSw;go_simp;(try with_reducible rfl))
         (try simp only [Act.put,sA,sZ,sS])
         refine' tk 7 [13] (y:=?y31_7) (r:=?r31_7)
         case y31_7=>(intro wS hSw;go_simp;(try with_reducible rfl))
         (try simp only [Act.put,sA,sZ,sS])
         refine' tk 8 [13] (y:=?y31_8) (r:=?r31_8)
         case y31_8=>(intro wS hSw;obtain ⟨g0,g1,g2⟩:=hSw;have q0:=Qi.out wS g1;go_simp;(try with_reducible rfl))
         (try simp only [Act.put,sA,sZ,sS])
         refine' tk 9 [13] (y:=?y31_9) (r:=?r31_9)
         case y31_9=>(intro wS hSw;go_simp;(try with_reducible rfl))
         (try simp only [Act.put,sA,sZ,sS])
         refine' tk 10 [13] (y:=?y31_10) (r:=?r31_10)
         case y31_10=>(intro wS hSw;obtain ⟨g0,g1,g2⟩:=hSw;obtain ⟨q0,q1,q2,q3,q4,q5,q6⟩:=Kk.out wS g0;go_simp;(try with_reducible rfl))
         (try simp only [Act.put,sA,sZ,sS])
         refine' tk 11 [13] (y:=?y31_11) (r:=?r31_11)
         case y31_11=>(intro wS hSw;go_simp;(try with_reducible rfl))
         (try simp only [Act.put,sA,sZ,sS])
         refine wpAnyL_one 12 rfl (by kernel_rfl) (fun K hK=>?_)
         go_simp
         go_at_call 46
         refine Jb.out.mono ?_
         rintro e w3 ⟨rfl,s2,k2,he⟩
         have Ke:=hid (HL.out.swept Ki.out (m:=12) (by decide) Kx.out he)
         have Jc:=hid (And.intro he.kp he.ls)
         clear he
         have HJ:=hid (show ∀j,j≠12→j<30→setP (setP P2 (30+i') (Part.ds s2)) 12 (Part.names k2) j=P2 j from fun j h1 h2=>by rw [setP_ne _ _ h1,setP_ne _ _ (by omega)])
         have hHeld3:(fun V=>V.heap[tb]? = some TO∧V.heap[wb]? = some WO∧V.cell? ⟨g,i',none⟩=some (.pointer (some ⟨dp i',0,none⟩))) w3:=⟨Ke.out.ps.of ((HJ.out 4 (by omega) (by omega)).trans H4.out),Ke.out.ps.of ((HJ.out 5 (by omega) (by omega)).trans H5.out),(HG.out _ _ Ke.out.ps ((HJ.out 6 (by omega) (by omega)).trans H6.out) i' Ki.out).2⟩
         clear Jb
         refine hK.out _ _ (fun _=>hHeld3) ?_
         clear hK K
         (try simp only [Act.put,sA,sZ,sS])
         refine wpAnyL_one 13 rfl (by kernel_rfl) (fun K hK=>?_)
         go_simp
         refine hK.out _ _ (fun h=>absurd rfl h) ?_
         clear hK K
         (try simp only [Act.put,sA,sZ,sS])
         refine wpAnyL_done (by kernel_rfl) ?_ _
         clear hHeld hHeld3
         go_wp2
         go_roundw
         case rel=>
          refine ⟨n'+1,by omega,by go_num,_,_,_,Ke.out,(HJ.out 4 (by omega) (by omega)).trans H4.out,(HJ.out 5 (by omega) (by omega)).trans H5.out,(HJ.out 6 (by omega) (by omega)).trans H6.out,setP_at _ _ _,Jc.out.1.trans Zz.out,?_,?_⟩
          ·obtain ⟨lv,u,l,hls⟩:=Jc.out.2
           rw [hls]
           have:=Ja.out
           simp
           omega
          ·obtain ⟨lv,u,l,hls⟩:=Jc.out.2
           intro x hx
           rw [hls] at hx
           rcases List.mem_append.1 hx with hx|hx
           ·exact Qh.out x hx
           ·obtain rfl:=List.mem_singleton.1 hx
            exact ⟨l,rfl,rfl⟩
         case measure=>simp [intOf];omega
        ·have hn7:¬((n':Int)<6):=by omega
         have Jd:=hid (Qg.out.settle (m:=12) (by decide) Kx.out Qh.out (by have:=Ja.out;omega) (by omega))
         rw [Zz.out] at Jd
         clear HL
         go_wp2_with fail
         refine Jd.out.mono ?_
         rintro e w3 ⟨rfl,hst⟩
         have Zh:=hid hst
         clear hst Jd
         go_wp2_with fail
         refine Zh.out.mono ?_
         rintro e w4 ⟨rfl,hst⟩
         have Zi:=hid hst
         clear hst Zh
         go_wp2_with fail
         refine Zi.out.mono ?_
         rintro e w5 ⟨rfl,P3,hp3,hvd⟩
         have Qj:=hid hvd
         have Qk:=hid ((hp3 4 (by decide) (by decide) (by decide)).trans H4.out);have Ql:=hid ((hp3 6 (by decide) (by decide) (by decide)).trans H6.out)
         clear hvd hp3 Zi Qg H4 H5 H6
         go_wp2
         go_loopw [25] (fun jv wr=>∃j:Nat,j≤2∧jv=.int .i64 j∧∃(P:Nat→Part) (D:Nat→DS),VD W0 wr 2 dp Y P D∧P 4=Part.box tb TO∧P 6=Part.row (.slice (some ⟨g,0,none⟩) i dc) i (ptrs dp i)) (fun jv _=>2-(intOf jv).toNat)
         case atStart=>exact ⟨0,by omega,rfl,_,_,Qj.out,Qk.out,Ql.out⟩
         case round=>
          clear Qj Qk Ql hn7
          obtain ⟨j,hj,rfl,P4,D4,hl,h4,h6⟩:=hrel
          obtain ⟨wo,rfl⟩:∃wo,wo=wr:=⟨_,rfl⟩
          have HL:=hid hl;have H4:=hid h4;have H6:=hid h6
          clear hl h4 h6
          by_cases hlt:j<2
          ·have hj2:((j:Int)<2):=by omega
           have hj3:((j:Int)<(i:Int)):=by have:=Zp.out;omega
           have Vj:=hid hlt
           obtain ⟨z0,z1,z2,z3,z4,z5,z6,hzc,hzv⟩:=Kr.out j hlt
           have Kk:=hid hzc;have Km:=hid hzv
           obtain ⟨o1,o2,o3,o4⟩:=Ky.out j
           have Kj:=hid o1
           obtain ⟨hg1,hg2⟩:=HG.out wo _ HL.out.ps H6.out j hlt
           obtain ⟨hf1,hf2⟩:=o_load (HL.out.fl j hlt) o1 o4
           have Zt:=hid hf2
           have Kd:=hid (load_own (HT.out.keep HL.out.ps.upd) (HL.out.dsIn hlt) (fun e=>by have h1:=HL.out.dsLow hlt 0 e;have h2:=HT.out.1;omega) oB (by decide))
           rw [hf1,HL.out.dp j hlt] at Kd
           clear hf1 hf2 hzc hzv o1 o2 o3 o4
           go_wp2_with fail
           refine Kd.out.mono ?_
           rintro e w6 ⟨⟨vy,rfl,hown⟩,s4,hst4,habs4,-⟩
           have Ks:=hid (HL.out.disk Vj.out hst4 (by rw [habs4];exact Zt.out))
           have Qm:=hid (show (setP P4 (30+j) (Part.ds s4)) 4=Part.box tb TO from by rw [setP_ne _ _ (by omega)];exact H4.out)
           have Vk:=hid (show (setP P4 (30+j) (Part.ds s4)) 6=Part.row (.slice (some ⟨g,0,none⟩) i dc) i (ptrs dp i) from by rw [setP_ne _ _ (by omega)];exact H6.out)
           have hva:=hown.at
           obtain ⟨ta,tc,ua,uc,hve,-,-⟩:=id hva
           have Qn:=hid hva
           obtain ⟨Z,hZ⟩:∃Z,Z=Y j:=⟨_,rfl⟩
           obtain ⟨tl,htl⟩:∃k,k=(Y j).state.length:=⟨_,rfl⟩
           obtain ⟨ul,hul⟩:∃k,k=(Y j).runs.length:=⟨_,rfl⟩
           rw [←htl,←hul] at hve
           rw [←hZ] at hve
           subst hve
           have Zb:=hid hZ
           obtain ⟨PY,hPY⟩:∃O,O=Obj.cells #[.int .i64 Z.gen,.int .i64 Z.flushed,.int .i64 Z.next,.int .i64 Z.low,.int .i64 Z.clock,.slice ta tl tc,.slice ua ul uc] 25 (0,0):=⟨_,rfl⟩
           obtain ⟨py,hpy⟩:∃p,p=w6.heap.size:=⟨_,rfl⟩
           obtain ⟨W8,hW8⟩:∃V,V=w6.alloc PY:=⟨_,rfl⟩
           have hu8:Upd (fun _=>False) w6 W8:=by rw [hW8];exact (Upd.refl _ _).alloc _
           have Vl:=hid (show W8.heap[py]? = some PY from by rw [hW8,hpy];exact heap_alloc_new w6 _)
           have Zx:=hid (Ks.out.quiet hu8)
           have Vm:=hid (Qn.out.keep hu8)
           have Vn:=hid hW8;have Kg:=hid hPY;have Ku:=hid hpy
           clear hst4 habs4 hown hva htl hul hZ hPY hpy hW8 hu8 hg1 hg2 Kd HL Ks Qn
           go_upto_region 40 with fail
           rw [←Kg.out,←Vn.out,←Ku.out]
           have Ze:=hid (Zx.out.quiet ((Upd.refl (fun _=>False) W8).drew))
           have hHeld:(fun V=>V.heap[tb]? = some TO∧V.heap[py]? = some PY) W8.drew:=⟨Ze.out.ps.of Qm.out,Vl.out⟩
           have Kp:=hid (sameVer_any (Vm.out.keep ((Upd.refl (fun _=>False) W8).drew)) (Km.out _ Ze.out.ps.upd) (lent_runs Kj.out))
           rw [show sameVerB (Y j) (Y j)=true from sameVerB_iff.2 rfl] at Kp
           refine wp_region_l (fun V=>V.heap[tb]? = some TO∧V.heap[py]? = some PY) 14 15 rfl (by kernel_rfl) ?_
           refine' tk 0 [1,2,3,4,5,6,7,8,9,10,11,12,13,14] (y:=?y40_0) (r:=?r40_0)
           case y40_0=>(intro wS hSw;go_simp;(try with_reducible rfl))
           (try simp only [Act.put,sA,sZ,sS])
           refine wpAnyL_one 1 rfl (by kernel_rfl) (fun K hK=>?_)
           go_simp
           go_at_call 13
           refine (lawNum_any _ _ (by decide)).mono ?_
           rintro e W ⟨rfl,hww⟩
           obtain rfl:=hww.symm
           refine hK.out _ _ (fun _=>hHeld) ?_
           clear hK K
           (try simp only [Act.put,sA,sZ,sS])
           refine' tk 2 [3,4,5,6,7,8,9,10,11,12,13,14] (y:=?y40_2) (r:=?r40_2)
           case y40_2=>(intro wS hSw;go_simp;(try with_reducible rfl))
           (try simp only [Act.put,sA,sZ,sS])
           refine' tk 3 [4,5,6,7,8,9,10,11,12,13,14] (y:=?y40_3) (r:=?r40_3)
           case y40_3=>(intro wS hSw;go_simp;(try with_reducible rfl))
           (try simp only [Act.put,sA,sZ,sS])
           refine' tk 4 [5,6,7,8,9,10,11,12,13,14] (y:=?y40_4) (r:=?r40_4)
           case y40_4=>(intro wS hSw;go_simp;(try with_reducible rfl))
           (try simp only [Act.put,sA,sZ,sS])
           refine' tk 5 [6,7,8,9,10,11,12,13,14] (y:=?y40_5) (r:=?r40_5)
           case y40_5=>(intro wS hSw;go_simp;(try with_reducible rfl))
           (try simp only [Act.put,sA,sZ,sS])
           refine' tk 6 [7,8,9,10,11,12,13,14] (y:=?y40_6) (r:=?r40_6)
           case y40_6=>(intro wS hSw;go_simp;(try with_reducible rfl))
           (try simp only [Act.put,sA,sZ,sS])
           refine' tk 7 [14] (y:=?y40_7) (r:=?r40_7)
           case y40_7=>(intro wS hSw;go_simp;(try with_reducible rfl))
           (try simp only [Act.put,sA,sZ,sS])
           refine' tk 8 [12,13,14] (y:=?y40_8) (r:=?r40_8)
           case y40_8=>(intro wS hSw;obtain ⟨g0,g1⟩:=hSw;obtain ⟨q0,q1,q2,q3,q4,q5,q6⟩:=Kk.out wS g0;obtain ⟨⟨y0,y1,y2,y3,y4,y5,y6⟩,-,-⟩:=verCells (g1.trans (congrArg some Kg.out));go_simp;(try with_reducible rfl))
           (try simp only [Act.put,sA,sZ,sS])
           refine' tk 9 [10,11,12,13,14] (y:=?y40_9) (r:=?r40_9)
           case y40_9=>(intro wS hSw;go_simp;(try with_reducible rfl))
           (try simp only [Act.put,sA,sZ,sS])
           refine' tk 10 [11,12,13,14] (y:=?y40_10) (r:=?r40_10)
           case y40_10=>(intro wS hSw;go_simp;(try with_reducible rfl))
           (try simp only [Act.put,sA,sZ,sS])
           refine' tk 11 [12,13,14] (y:=?y40_11) (r:=?r40_11)
           case y40_11=>(intro wS hSw;obtain ⟨g0,g1⟩:=hSw;obtain ⟨q0,q1,q2,q3,q4,q5,q6⟩:=Kk.out wS g0;obtain ⟨⟨y0,y1,y2,y3,y4,y5,y6⟩,-,-⟩:=verCells (g1.trans (congrArg some Kg.out));go_simp;(try with_reducible rfl))
           (try simp only [Act.put,sA,sZ,sS])
           refine wpAnyL_one 12 rfl (by kernel_rfl) (fun K hK=>?_)
           go_simp
           go_at_call 24
           refine Kp.out.mono ?_
           rintro e W9 ⟨rfl,hu9⟩
           have Vo:=hid (Ze.out.quiet hu9)
           have hHeld9:(fun V=>V.heap[tb]? = some TO∧V.heap[py]? = some PY) W9:=⟨hu9.get hHeld.1 (fun e=>e),hu9.get hHeld.2 (fun e=>e)⟩
           clear hu9 Ze Kp
           refine hK.out _ _ (fun _=>hHeld9) ?_
           clear hK K
           (try simp only [Act.put,sA,sZ,sS])
           refine' tk 13 [14] (y:=?y40_13) (r:=?r40_13)
           case y40_13=>(intro wS hSw;go_simp;(try with_reducible rfl))
           (try simp only [Act.put,sA,sZ,sS])
           refine wpAnyL_one 14 rfl (by kernel_rfl) (fun K hK=>?_)
           go_simp
           refine hK.out _ _ (fun h=>absurd rfl h) ?_
           clear hK K
           (try simp only [Act.put,sA,sZ,sS])
           refine wpAnyL_done (by kernel_rfl) ?_ _
           clear hHeld hHeld9
           go_wp2
           go_roundw
           case rel=>exact ⟨j+1,by omega,by go_num,_,_,Vo.out,Qm.out,Vk.out⟩
           case measure=>simp [intOf];omega
          ·have hj2:¬((j:Int)<2):=by omega
           have Vp:=hid (started_any (HT.out.keep HL.out.ps.upd))
           have Vq:=hid HL.out.ps.upd
           clear HL H4 H6
           go_wp2_with fail
           refine Vp.out.mono ?_
           rintro e w7 ⟨rfl,hu7⟩
           have Vr:=hid (Vq.out.trans hu7 (fun _ _ e=>e))
           clear hu7
           go_wp2
           go_ret
           exact ⟨rfl,Vr.out⟩
end Go.Proofs.YtgaidmohdhaonaaGreatDoor
