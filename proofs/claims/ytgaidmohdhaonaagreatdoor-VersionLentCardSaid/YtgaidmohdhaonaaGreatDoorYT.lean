/-
  strataref7.SameMeta, strataref10.Same; stratalaw10.num, same, first.
  strataref10.Same.
-/
import Derived.Test.YtgaidmohdhaonaaGreatDoorYL
import Derived.Test.YtgaidmohdhaonaaGreatDoorYJ
import Derived.Test.YtgaidmohdhaonaaGreatDoorYK
import Derived.Test.YtgaidmohdhaonaaGreatDoorYI
set_option linter.unusedVariables false
set_option linter.unusedSimpArgs false
set_option linter.unnecessarySimpa false
set_option linter.unusedSectionVars false
set_option maxRecDepth 100000
set_option maxHeartbeats 6400000
namespace Go.Proofs.YtgaidmohdhaonaaGreatDoor
open Go Go.RowKit
def sameMetaB (x y:MetaA):Bool:=
 decide (x.num=y.num)&&decide (x.count=y.count)&&decide (x.index=y.index)&&decide (x.low=y.low)&&decide (x.clock=y.clock)&&decide (x.bytes=y.bytes)&&decide (x.first=y.first)&&decide (x.last=y.last)
theorem sameMetaB_iff {x y:MetaA} : sameMetaB x y=true↔x=y:=by
 cases x;cases y
 simp [sameMetaB,and_assoc]
theorem sameMeta_any {w:World} {x y:MetaA} {f1 f2 g1 g2:Option Addr} {c1 c2 d1 d2:Nat} (hf1:BAt w (.slice f1 x.first.length c1) x.first) (hf2:BAt w (.slice f2 x.last.length c2) x.last) (hg1:BAt w (.slice g1 y.first.length d1) y.first) (hg2:BAt w (.slice g2 y.last.length d2) y.last) :
  Calls Tryz.prog 80 #[.agg #[.int .i64 x.num,.int .i64 x.count,.int .i64 x.index,.int .i64 x.low,.int .i64 x.clock,.int .i64 x.bytes,.slice f1 x.first.length c1,.slice f2 x.last.length c2],.agg #[.int .i64 y.num,.int .i64 y.count,.int .i64 y.index,.int .i64 y.low,.int .i64 y.clock,.int .i64 y.bytes,.slice g1 y.first.length d1,.slice g2 y.last.length d2]] w fun e w'=>e=.returned (.bool (sameMetaB x y))∧Upd (fun _=>False) w w':=by
 have HU:=hid (((Upd.refl (fun _=>False) w).alloc (.cells #[.int .i64 x.num,.int .i64 x.count,.int .i64 x.index,.int .i64 x.low,.int .i64 x.clock,.int .i64 x.bytes,.slice f1 x.first.length c1,.slice f2 x.last.length c2] 48)).alloc (.cells #[.int .i64 y.num,.int .i64 y.count,.int .i64 y.index,.int .i64 y.low,.int .i64 y.clock,.int .i64 y.bytes,.slice g1 y.first.length d1,.slice g2 y.last.length d2] 48))
 have Ka:=hid (refSame_any (hf1.keep HU.out) (hg1.keep HU.out))
 have Kb:=hid (refSame_any (hf2.keep HU.out) (hg2.keep HU.out))
 clear hf1 hf2 hg1 hg2
 by_cases e0:x.num=y.num
 case neg=>
  have HR:=hid (show sameMetaB x y=false from by simp [sameMetaB,e0])
  have b0:(x.num==y.num)=false:=by simpa using e0
  clear e0
  go_enter Tryz.func80,Tryz.ntmps80
  go_wp2
  go_ret
  exact ⟨by rw [HR.out];rfl,HU.out⟩
 have b0:(x.num==y.num)=true:=by simpa using e0
 have E0:=hid e0
 clear e0
 by_cases e1:x.count=y.count
 case neg=>
  have HR:=hid (show sameMetaB x y=false from by simp [sameMetaB,e1])
  have b1:(x.count==y.count)=false:=by simpa using e1
  clear e1
  go_enter Tryz.func80,Tryz.ntmps80
  go_wp2
  go_ret
  exact ⟨by rw [HR.out];rfl,HU.out⟩
 have b1:(x.count==y.count)=true:=by simpa using e1
 have E1:=hid e1
 clear e1
 by_cases e2:x.index=y.index
 case neg=>
  have HR:=hid (show sameMetaB x y=false from by simp [sameMetaB,e2])
  have b2:(x.index==y.index)=false:=by simpa using e2
  clear e2
  go_enter Tryz.func80,Tryz.ntmps80
  go_wp2
  go_ret
  exact ⟨by rw [HR.out];rfl,HU.out⟩
 have b2:(x.index==y.index)=true:=by simpa using e2
 have E2:=hid e2
 clear e2
 by_cases e3:x.low=y.low
 case neg=>
  have HR:=hid (show sameMetaB x y=false from by simp [sameMetaB,e3])
  have b3:(x.low==y.low)=false:=by simpa using e3
  clear e3
  go_enter Tryz.func80,Tryz.ntmps80
  go_wp2
  go_ret
  exact ⟨by rw [HR.out];rfl,HU.out⟩
 have b3:(x.low==y.low)=true:=by simpa using e3
 have E3:=hid e3
 clear e3
 by_cases e4:x.clock=y.clock
 case neg=>
  have HR:=hid (show sameMetaB x y=false from by simp [sameMetaB,e4])
  have b4:(x.clock==y.clock)=false:=by simpa using e4
  clear e4
  go_enter Tryz.func80,Tryz.ntmps80
  go_wp2
  go_ret
  exact ⟨by rw [HR.out];rfl,HU.out⟩
 have b4:(x.clock==y.clock)=true:=by simpa using e4
 have E4:=hid e4
 clear e4
 by_cases e5:x.bytes=y.bytes
 case neg=>
  have HR:=hid (show sameMetaB x y=false from by simp [sameMetaB,e5])
  have b5:(x.bytes==y.bytes)=false:=by simpa using e5
  clear e5
  go_enter Tryz.func80,Tryz.ntmps80
  go_wp2
  go_ret
  exact ⟨by rw [HR.out];rfl,HU.out⟩
 have b5:(x.bytes==y.bytes)=true:=by simpa using e5
 have E5:=hid e5
 clear e5
 have HR:=hid (show sameMetaB x y=(decide (x.first=y.first)&&decide (x.last=y.last)) from by simp [sameMetaB,E0.out,E1.out,E2.out,E3.out,E4.out,E5.out])
 by_cases h1:x.first=y.first
 ·rw [decide_eq_true h1] at Ka HR
  rw [Bool.true_and] at HR
  have H1:=hid h1
  clear h1
  go_enter Tryz.func80,Tryz.ntmps80
  go_wp2_with fail
  refine Ka.out.mono ?_
  rintro e w1 ⟨rfl,rfl⟩
  go_wp2_with fail
  refine Kb.out.mono ?_
  rintro e w1 ⟨rfl,rfl⟩
  go_wp2
  go_ret
  exact ⟨by rw [HR.out];rfl,HU.out⟩
 ·rw [decide_eq_false h1] at Ka HR
  rw [Bool.false_and] at HR
  clear h1
  go_enter Tryz.func80,Tryz.ntmps80
  go_wp2_with fail
  refine Ka.out.mono ?_
  rintro e w1 ⟨rfl,rfl⟩
  go_wp2
  go_ret
  exact ⟨by rw [HR.out];rfl,HU.out⟩
theorem lawNum_any (w:World) (n:Int) (h : -9223372036854775808≤n∧n≤9223372036854775807) :
  Calls Tryz.prog 13 #[.int .i64 n] w fun e w'=>e=.returned (.int .i64 n)∧w'=w:=by
 go_enter Tryz.func13,Tryz.ntmps13
 go_wp2
 go_ret
 exact ⟨rfl,rfl⟩
theorem lawSame_any {w:World} {a b:Value} {xs bs:List UInt8} (ha:BAt w a xs) (hb:BAt w b bs) :
  Calls Tryz.prog 23 #[a,b] w fun e w'=>e=.returned (.bool (decide (xs=bs)))∧w'=w:=by
 have HS:=hid (refSame_any ha hb)
 clear ha hb
 go_enter Tryz.func23,Tryz.ntmps23
 go_wp2_with fail
 refine HS.out.mono ?_
 rintro e w1 ⟨rfl,rfl⟩
 go_wp2
 go_ret
 exact ⟨rfl,rfl⟩
theorem lawFirst_any (w:World) :
  Calls Tryz.prog 11 #[] w fun e w'=>e=.returned (.agg (verC 1 0 1 0 1 (.slice none 0 0) (.slice none 0 0)))∧Upd (fun _=>False) w w':=by
 go_enter Tryz.func11,Tryz.ntmps11
 have hb:=heap_alloc_new w (.cells (verC 0 0 0 0 0 (.slice none 0 0) (.slice none 0 0)) 25)
 have hu:=(Upd.refl (fun _=>False) w).alloc (.cells (verC 0 0 0 0 0 (.slice none 0 0) (.slice none 0 0)) 25)
 go_upto_region 1 with fail
 obtain ⟨p,hp⟩:∃p,p=w.heap.size:=⟨_,rfl⟩
 rw [←hp] at hb⊢
 have HU:=hid hu;have HB:=hid hb;have HP:=hid hp
 generalize w.alloc (.cells #[.int .i64 0,.int .i64 0,.int .i64 0,.int .i64 0,.int .i64 0,.slice none 0 0,.slice none 0 0] 25)=W1 at HU HB⊢
 clear hu hb hp
 obtain ⟨⟨q0,q1,q2,q3,q4,q5,q6⟩,⟨z0,z1,z2,z3,z4,z5,z6⟩,hql⟩:=verCells HB.out
 have HO:=hid (And.intro (verOut_at HB.out 1 0 1 0 1 (.slice none 0 0) (.slice none 0 0)) (verOut_upd HU.out (p:=p) (fun e=>by have:=HP.out;omega) 1 0 1 0 1 (.slice none 0 0) (.slice none 0 0)))
 go_wp2
 (try simp only [Exit.inBlock,Exit.then])
 refine bodyPost_ret (results_ver1 rfl _ _ p _ rfl rfl HO.out.1) rfl ?_
 exact ⟨rfl,HO.out.2⟩
def sameVerB (x y:VerA):Bool:=
 decide (x.gen=y.gen)&&decide (x.flushed=y.flushed)&&decide (x.next=y.next)&&decide (x.low=y.low)&&decide (x.clock=y.clock)&&decide (x.state=y.state)&&decide (x.runs.length=y.runs.length) &&
 (List.range x.runs.length).all fun i=>sameMetaB (x.runs.getD i zeroMeta) (y.runs.getD i zeroMeta)
theorem sameVerB_iff {x y:VerA} : sameVerB x y=true↔x=y:=by
 constructor
 ·intro h
  simp only [sameVerB,Bool.and_eq_true,decide_eq_true_eq,List.all_eq_true,List.mem_range] at h
  obtain ⟨⟨⟨⟨⟨⟨⟨h0,h1⟩,h2⟩,h3⟩,h4⟩,h5⟩,h6⟩,h7⟩:=h
  have hr:x.runs=y.runs:=by
   refine List.ext_getElem h6 (fun i a b=>?_)
   have:=sameMetaB_iff.1 (h7 i a)
   simpa [List.getD_eq_getElem?_getD,List.getElem?_eq_getElem a,List.getElem?_eq_getElem b] using this
  cases x;cases y
  simp_all
 ·rintro rfl
  have h:∀m,sameMetaB m m=true:=fun m=>sameMetaB_iff.2 rfl
  simp [sameVerB,h]
theorem sameVerB_at {x y:VerA} {i:Nat} (hi:i<x.runs.length) (h:sameMetaB (x.runs.getD i zeroMeta) (y.runs.getD i zeroMeta)=false):sameVerB x y=false:=by
 rw [Bool.eq_false_iff]
 intro e
 rw [sameVerB_iff] at e
 subst e
 rw [sameMetaB_iff.2 rfl] at h
 cases h
theorem sameVer_any {w:World} {va vb:Value} {x y:VerA} (hx:VerAt w va x) (hy:VerAt w vb y) (hl:x.runs.length≤140737488351232) :
  Calls Tryz.prog 24 #[va,vb] w fun e w'=>e=.returned (.bool (sameVerB x y))∧Upd (fun _=>False) w w':=by
 obtain ⟨s1,d1,s2,d2,rfl,hb1,hr1⟩:=hx
 obtain ⟨t1,e1,t2,e2,rfl,hb2,hr2⟩:=hy
 have Km:=hid hb1;have Kn:=hid hb2
 have Ki:=hid hr1;have Kj:=hid hr2
 obtain ⟨nx,hnx⟩:∃n,n=x.runs.length:=⟨_,rfl⟩
 obtain ⟨ny,hny⟩:∃n,n=y.runs.length:=⟨_,rfl⟩
 rw [←hnx] at Ki hl⊢
 rw [←hny] at Kj⊢
 have Kc:=hid hnx;have Ke:=hid hny
 clear hb1 hb2 hr1 hr2 hnx hny
 have HU:=hid (((Upd.refl (fun _=>False) w).alloc (.cells #[.int .i64 x.gen,.int .i64 x.flushed,.int .i64 x.next,.int .i64 x.low,.int .i64 x.clock,.slice s1 x.state.length d1,.slice s2 nx d2] 25)).alloc (.cells #[.int .i64 y.gen,.int .i64 y.flushed,.int .i64 y.next,.int .i64 y.low,.int .i64 y.clock,.slice t1 y.state.length e1,.slice t2 ny e2] 25))
 have HS:=hid (refSame_any (Km.out.keep HU.out) (Kn.out.keep HU.out))
 by_cases q0:x.gen=y.gen
 case neg=>
  have HR:=hid (show sameVerB x y=false from by simp [sameVerB,q0])
  have b0:(x.gen != y.gen)=true:=by simpa using q0
  clear q0
  go_enter Tryz.func24,Tryz.ntmps24
  go_wp2
  go_ret
  exact ⟨by rw [HR.out];rfl,HU.out⟩
 have b0:(x.gen != y.gen)=false:=by simpa using q0
 have Q0:=hid q0
 clear q0
 by_cases q1:x.flushed=y.flushed
 case neg=>
  have HR:=hid (show sameVerB x y=false from by simp [sameVerB,q1])
  have b1:(x.flushed != y.flushed)=true:=by simpa using q1
  clear q1
  go_enter Tryz.func24,Tryz.ntmps24
  go_wp2
  go_ret
  exact ⟨by rw [HR.out];rfl,HU.out⟩
 have b1:(x.flushed != y.flushed)=false:=by simpa using q1
 have Q1:=hid q1
 clear q1
 by_cases q2:x.next=y.next
 case neg=>
  have HR:=hid (show sameVerB x y=false from by simp [sameVerB,q2])
  have b2:(x.next != y.next)=true:=by simpa using q2
  clear q2
  go_enter Tryz.func24,Tryz.ntmps24
  go_wp2
  go_ret
  exact ⟨by rw [HR.out];rfl,HU.out⟩
 have b2:(x.next != y.next)=false:=by simpa using q2
 have Q2:=hid q2
 clear q2
 by_cases q3:x.low=y.low
 case neg=>
  have HR:=hid (show sameVerB x y=false from by simp [sameVerB,q3])
  have b3:(x.low != y.low)=true:=by simpa using q3
  clear q3
  go_enter Tryz.func24,Tryz.ntmps24
  go_wp2
  go_ret
  exact ⟨by rw [HR.out];rfl,HU.out⟩
 have b3:(x.low != y.low)=false:=by simpa using q3
 have Q3:=hid q3
 clear q3
 by_cases q4:x.clock=y.clock
 case neg=>
  have HR:=hid (show sameVerB x y=false from by simp [sameVerB,q4])
  have b4:(x.clock != y.clock)=true:=by simpa using q4
  clear q4
  go_enter Tryz.func24,Tryz.ntmps24
  go_wp2
  go_ret
  exact ⟨by rw [HR.out];rfl,HU.out⟩
 have b4:(x.clock != y.clock)=false:=by simpa using q4
 have Q4:=hid q4
 clear q4
 by_cases q5:x.state=y.state
 case neg=>
  have HR:=hid (show sameVerB x y=false from by simp [sameVerB,q5])
  rw [decide_eq_false q5] at HS
  clear q5
  go_enter Tryz.func24,Tryz.ntmps24
  go_wp2_with fail
  refine HS.out.mono ?_
  rintro e w1 ⟨rfl,rfl⟩
  go_wp2
  go_ret
  exact ⟨by rw [HR.out];rfl,HU.out⟩
 rw [decide_eq_true q5] at HS
 have Q5:=hid q5
 clear q5
 by_cases q6:nx=ny
 case neg=>
  have HR:=hid (show sameVerB x y=false from by simp [sameVerB];intro _ _ _ _ _ _ h;exact absurd (by rw [Kc.out,Ke.out,h]) q6)
  have b6:((nx:Int) != (ny:Int))=true:=by simp;omega
  clear q6
  go_enter Tryz.func24,Tryz.ntmps24
  go_wp2_with fail
  refine HS.out.mono ?_
  rintro e w1 ⟨rfl,rfl⟩
  go_wp2
  go_ret
  exact ⟨by rw [HR.out];rfl,HU.out⟩
 subst q6
 have b6:((nx:Int) != (nx:Int))=false:=by simp
 go_enter Tryz.func24,Tryz.ntmps24
 go_wp2_with fail
 refine HS.out.mono ?_
 rintro e w1 ⟨rfl,hww⟩
 obtain ⟨W2,hW2⟩:∃W,W=(w.alloc (.cells #[.int .i64 x.gen,.int .i64 x.flushed,.int .i64 x.next,.int .i64 x.low,.int .i64 x.clock,.slice s1 x.state.length d1,.slice s2 nx d2] 25)).alloc (.cells #[.int .i64 y.gen,.int .i64 y.flushed,.int .i64 y.next,.int .i64 y.low,.int .i64 y.clock,.slice t1 y.state.length e1,.slice t2 nx e2] 25):=⟨_,rfl⟩
 have hra:=heap_alloc_new w (.cells #[.int .i64 x.gen,.int .i64 x.flushed,.int .i64 x.next,.int .i64 x.low,.int .i64 x.clock,.slice s1 x.state.length d1,.slice s2 nx d2] 25)
 have hrb:=heap_alloc_new (w.alloc (.cells #[.int .i64 x.gen,.int .i64 x.flushed,.int .i64 x.next,.int .i64 x.low,.int .i64 x.clock,.slice s1 x.state.length d1,.slice s2 nx d2] 25)) (.cells #[.int .i64 y.gen,.int .i64 y.flushed,.int .i64 y.next,.int .i64 y.low,.int .i64 y.clock,.slice t1 y.state.length e1,.slice t2 nx e2] 25)
 have hra2:W2.heap[w.heap.size]? = some (.cells #[.int .i64 x.gen,.int .i64 x.flushed,.int .i64 x.next,.int .i64 x.low,.int .i64 x.clock,.slice s1 x.state.length d1,.slice s2 nx d2] 25 (0,0)):=by rw [hW2,heap_alloc_past _ _ _ (by simp)];exact hra
 rw [World.size_alloc,←hW2] at hrb
 rw [←hW2] at HU
 have hw1:w1=W2:=by rw [hww,hW2]
 subst hw1
 have Ka:=hid hra2;have Kb:=hid hrb
 obtain ⟨pa,hpa⟩:∃p,p=w.heap.size:=⟨_,rfl⟩
 obtain ⟨pb,hpb⟩:∃p,p=w.heap.size+1:=⟨_,rfl⟩
 rw [←hpa] at Ka
 rw [←hpb] at Kb
 rw [←hpb,←hpa]
 clear hww hW2 hra hrb hra2 hpa hpb b0 b1 b2 b3 b4 HS
 obtain ⟨⟨z0,z1,z2,z3,z4,z5,z6⟩,-,hal⟩:=verCells Ka.out
 obtain ⟨⟨v0,v1,v2,v3,v4,v5,v6⟩,-,hbl⟩:=verCells Kb.out
 clear z0 z1 z2 z3 z4 z5 v0 v1 v2 v3 v4 v5
 go_wp2
 clear z6 v6 hal hbl
 go_loopw [5] (fun iv wr=>∃k:Nat,iv=.int .i64 k∧k≤nx∧Upd (fun _=>False) w1 wr∧∀j<k,sameMetaB (x.runs.getD j zeroMeta) (y.runs.getD j zeroMeta)=true) (fun iv _=>nx-(intOf iv).toNat)
 case atStart=>exact ⟨0,rfl,by omega,Upd.refl _ _,fun j hj=>absurd hj (by omega)⟩
 case round=>
  obtain ⟨k,rfl,hk,hup,hall⟩:=hrel
  have Kf:=hid hup;have Kd:=hid hall
  obtain ⟨wo,rfl⟩:∃wo,wo=wr:=⟨_,rfl⟩
  have HA:=hid (hup.get Ka.out (fun e=>e))
  have HB:=hid (hup.get Kb.out (fun e=>e))
  obtain ⟨⟨z0,z1,z2,z3,z4,z5,z6⟩,-,hal⟩:=verCells HA.out
  obtain ⟨⟨v0,v1,v2,v3,v4,v5,v6⟩,-,hbl⟩:=verCells HB.out
  clear hup hall z0 z1 z2 z3 z4 z5 v0 v1 v2 v3 v4 v5
  by_cases hlt:k<nx
  ·have hkx:k<x.runs.length:=by have:=Kc.out;omega
   have hky:k<y.runs.length:=by have:=Ke.out;omega
   have Kk:=hid (HU.out.trans Kf.out (fun _ _ e=>e))
   have h1:=Ki.out.keep Kk.out
   have h2:=Kj.out.keep Kk.out
   obtain ⟨xa,xc,ex,hx1,hx2,hx3⟩:=h1
   obtain ⟨ya,yc,ey,hy1,hy2,hy3⟩:=h2
   injection ex with ex1 ex2 ex3
   injection ey with ey1 ey2 ey3
   subst ex1;subst ex3;subst ey1;subst ey3
   clear ex2 ey2
   obtain ⟨bx,ox,f1,c1,f2,c2,rfl,hbx,g0,g1,g2,g3,g4,g5,g6,g7,hB1,hB2⟩:=hx3 k hkx
   obtain ⟨bz,oz,l1,m1,l2,m2,rfl,hbz,i0,i1,i2,i3,i4,i5,i6,i7,hB3,hB4⟩:=hy3 k hky
   have Kg:=hid (show x.runs.getD k zeroMeta=x.runs[k] from getD_at hkx)
   have Kh:=hid (show y.runs.getD k zeroMeta=y.runs[k] from getD_at hky)
   obtain ⟨r,hr⟩:∃r,r=x.runs[k]:=⟨_,rfl⟩
   obtain ⟨t,ht⟩:∃r,r=y.runs[k]:=⟨_,rfl⟩
   rw [←hr] at g0 g1 g2 g3 g4 g5 g6 g7 hB1 hB2 Kg
   rw [←ht] at i0 i1 i2 i3 i4 i5 i6 i7 hB3 hB4 Kh
   have HM:=hid (sameMeta_any (hB1.keep (Upd.refl (fun _=>False) wo).drew) (hB2.keep (Upd.refl (fun _=>False) wo).drew) (hB3.keep (Upd.refl (fun _=>False) wo).drew) (hB4.keep (Upd.refl (fun _=>False) wo).drew))
   have Ko:=hid hkx
   have hxc:(k:Int)<(d2:Int):=by omega
   clear hx3 hy3 hB1 hB2 hB3 hB4 hr ht hkx hky hx1 hx2 hy1 hy2
   obtain ⟨F,hF⟩:∃F,F=sameMetaB r t:=⟨_,rfl⟩
   rw [←hF] at HM
   have HF:=hid hF
   clear hF
   go_upto_region 6 with fail
   go_still_tail 10,(by kernel_rfl)
   change wpList _ _ _ _ _ wo.drew
   go_wp2_with fail
   refine HM.out.mono ?_
   rintro e w2 ⟨rfl,hu2⟩
   have Kl:=hid (Kf.out.trans ((Upd.refl (fun _=>False) wo).drew.trans hu2 (fun _ _ e=>e)) (fun _ _ e=>e))
   clear hu2 g0 g1 g2 g3 g4 g5 g6 g7 i0 i1 i2 i3 i4 i5 i6 i7 HM z6 v6 hal hbl
   cases F
   ·have HR:=hid (sameVerB_at (x:=x) (y:=y) Ko.out (by rw [Kg.out,Kh.out];exact HF.out.symm))
    go_wp2
    go_ret
    exact ⟨by rw [HR.out];rfl,HU.out.trans Kl.out (fun _ _ e=>e)⟩
   ·have HN:=hid (show ∀j<k+1,sameMetaB (x.runs.getD j zeroMeta) (y.runs.getD j zeroMeta)=true from by
     intro j hj
     rcases Nat.lt_succ_iff_lt_or_eq.1 hj with h|rfl
     ·exact Kd.out j h
     ·rw [Kg.out,Kh.out];exact HF.out.symm)
    go_wp2
    go_roundw
    case rel=>exact ⟨k+1,by simp,by omega,Kl.out,HN.out⟩
    case measure=>simp [intOf];omega
  ·have HR:=hid (show sameVerB x y=true from by
    simp only [sameVerB,Bool.and_eq_true,decide_eq_true_eq,List.all_eq_true,List.mem_range]
    exact ⟨⟨⟨⟨⟨⟨⟨Q0.out,Q1.out⟩,Q2.out⟩,Q3.out⟩,Q4.out⟩,Q5.out⟩,by rw [←Kc.out,←Ke.out]⟩,fun i hi=>Kd.out i (by have:=Kc.out;omega)⟩)
   go_wp2
   go_ret
   exact ⟨by rw [HR.out];rfl,HU.out.trans Kf.out (fun _ _ e=>e)⟩
abbrev tailB:List UInt8:=[201,202,203,204,205]
theorem wide_any {w:World} {v:Value} {b:List UInt8} (hv:BAt w v b) (hl:b.length≤140737488351232) :
  Calls Tryz.prog 163 #[v] w fun e w'=>∃g c,e=.returned (.tuple #[.slice (some ⟨g,0,none⟩) b.length c,.slice (some ⟨g,0,none⟩) (b.length+5) c])∧NewB w w' (.slice (some ⟨g,0,none⟩) (b.length+5) c) (b++tailB)∧BAt w' (.slice (some ⟨g,0,none⟩) b.length c) b:=by
 have HV:=hid hv
 obtain ⟨ao,cap,rfl,-,-,-,-⟩:=hv
 have hp:=refPart_any HV.out (lo:=0) (hi:=b.length) (by omega) (by omega) hl
 rw [List.drop_zero,Nat.sub_zero,List.take_length] at hp
 have HP:=hid hp
 clear hp
 obtain ⟨n,hn⟩:∃n,n=b.length:=⟨_,rfl⟩
 rw [←hn] at HP hl⊢
 have HN:=hid hn
 clear hn
 go_enter Tryz.func163,Tryz.ntmps163
 go_wp2_with fail
 refine HP.out.mono ?_
 rintro e w1 ⟨v1,rfl,hn1⟩
 obtain ⟨a1,c1,e1,-,-⟩:=hn1.shape
 rw [←HN.out] at e1
 subst e1
 obtain ⟨v2,w2,hr,hn2⟩:=hn1.push tailB (by have:=HN.out;simp;omega) 22
 have HR:Hid ((Builtin.append_ #[22,22] 22 #[.slice a1 n c1,.slice (some ⟨w1.heap.size,0,none⟩) 5 5]).run Tryz.prog (w1.alloc (.cells #[.int .u8 201,.int .u8 202,.int .u8 203,.int .u8 204,.int .u8 205] 5))=.ok v2 w2):=hid hr
 obtain ⟨g,c2,rfl,hg1,hg2⟩:∃g c,v2=.slice (some ⟨g,0,none⟩) (n+5) c∧n+5≤c∧c≤9223372036854775807:=by
  rcases hn2.data with ⟨-,h⟩|⟨g,c,cur,e,-,h1,-,h2,-⟩
  ·simp at h
  ·refine ⟨g,c,?_,?_,?_⟩
   ·rw [e,HN.out];simp
   ·have:=HN.out;simp at h1;omega
   ·simpa [maxLen] using h2
 have Ka:=hid hn2
 clear hr hn1 hn2
 have hc0:¬c2=0:=by omega
 have hci:(n:Int)≤(c2:Int):=by omega
 go_wp2_with (at_builtin;refine wpList_append_run rfl _ _ _ rfl rfl rfl HR.out ?_)
 go_ret2
 refine ⟨g,c2,rfl,Ka.out,?_⟩
 have hb:=Ka.out.data.bat
 rw [show n+5=(b++tailB).length from by rw [HN.out];simp] at hb
 have hs:=hb.sub (lo:=0) (n:=n) (by rw [HN.out];simp)
 rw [Nat.add_zero,Nat.sub_zero,List.drop_zero,List.take_left' HN.out.symm] at hs
 exact hs
abbrev firstA:VerA:=⟨1,0,1,0,1,[],[]⟩
abbrev aDot:ByteArray:={ data:=#[97,46] }
theorem first_swap:(swapP (newA 4096) aDot firstA).1=0:=by kernel_rfl
theorem first_load:(loadP (swapP (newA 4096) aDot firstA).2 aDot).1=(some firstA,0):=by kernel_rfl
theorem firstAt (w:World):VerAt w (.agg (verC 1 0 1 0 1 (.slice none 0 0) (.slice none 0 0))) firstA:=
 ⟨none,0,none,0,rfl,⟨none,0,rfl,by decide,by decide,fun _=>⟨rfl,rfl⟩,fun j hj=>absurd hj (by simp)⟩,⟨none,0,rfl,by decide,by decide,fun k hk=>absurd hk (by simp)⟩⟩
theorem started_any {w:World} (hT:TabIn w) :
  Calls Tryz.prog 32 #[] w fun e w'=>e=.returned (.bool true)∧Upd (fun _=>False) w w':=by
 have HT:=hid hT
 have Ko:=hid (new_yes w 4096 (by omega))
 clear hT
 go_enter Tryz.func32,Tryz.ntmps32
 go_wp2_with fail
 refine Ko.out.mono ?_
 rintro e w1 ⟨s,rfl,hs,habs,hblk,hu⟩
 have HS:=hid hs;have Kg:=hid habs;have Kc:=hid hblk;have HU:=hid hu
 have Kp:=hid (HT.out.keep hu)
 have H0:=hid (show 0∉s.blocks from fun e=>by have:=hblk 0 e;have:=HT.out.1;omega)
 clear hs habs hblk hu
 go_wp2_with fail
 refine (lawNum_any _ _ (by omega)).mono ?_
 rintro e W ⟨rfl,hww⟩
 obtain rfl:=hww.symm
 go_wp2_with fail
 refine (lawFirst_any _).mono ?_
 rintro e w2 ⟨rfl,hu2⟩
 have Kq:=hid (HS.out.upd hu2 (fun _ _ e=>e))
 have Kh:=hid (Step.of_upd HS.out hu2)
 have Kb:=hid (Kp.out.keep hu2)
 clear hu2
 have Ki:=hid (swap_any Kb.out Kq.out H0.out aDot (by decide) (firstAt w2) (by simp))
 rw [Kg.out,first_swap] at Ki
 go_wp2_with fail
 refine Ki.out.mono ?_
 rintro e w3 ⟨rfl,s3,hst3,habs3⟩
 have Kd:=hid (Kh.out.trans hst3)
 have Kr:=hid hst3.p
 have Ks:=hid (show 0<w2.heap.size from Kb.out.1)
 have Kj:=hid (load_any (Kb.out.upd hst3.upd H0.out) hst3.ins (hst3.zero H0.out Ks.out) aDot (by decide))
 rw [habs3,first_load,Kr.out] at Kj
 have Kx:=hid (Kb.out.upd hst3.upd H0.out)
 have Kk:=hid (show Upd (fun _=>False) w w3 from HU.out.trans Kd.out.upd (fun k hk e=>by have:=Kc.out k e;omega))
 have Kt:=hid (show ∀k∈s3.blocks,w.heap.size≤k from fun k e=>(Kd.out.foot k e).elim (Kc.out k) (fun h=>Nat.le_trans HU.out.size h))
 clear hst3 habs3
 go_wp2_with fail
 refine Kj.out.mono ?_
 rintro e w4 ⟨⟨v,rfl,hown⟩,s4,hst4,-⟩
 have Ke:=hid (show Upd (fun _=>False) w w4 from Kk.out.trans hst4.upd (fun k hk e=>by have:=Kt.out k e;omega))
 have hat:=hown.at
 obtain ⟨t1,d1,t2,d2,rfl,-,-⟩:=hat
 have Kl:=hid (show VerAt w4 (.agg #[.int .i64 1,.int .i64 0,.int .i64 1,.int .i64 0,.int .i64 1,.slice t1 0 d1,.slice t2 0 d2]) firstA from hown.at)
 clear hown hst4
 go_upto_region 6 with fail
 have hrow:=heap_alloc_new w4 (.cells #[.int .i64 1,.int .i64 0,.int .i64 1,.int .i64 0,.int .i64 1,.slice t1 0 d1,.slice t2 0 d2] 25)
 have hu5:=(Upd.refl (fun _=>False) w4).alloc (.cells #[.int .i64 1,.int .i64 0,.int .i64 1,.int .i64 0,.int .i64 1,.slice t1 0 d1,.slice t2 0 d2] 25)
 have Km:=hid (Ke.out.trans hu5 (fun _ _ e=>e))
 have Kf:=hid (Kl.out.keep hu5)
 obtain ⟨pb,hpb⟩:∃p,p=w4.heap.size:=⟨_,rfl⟩
 rw [←hpb] at hrow⊢
 have Ka:=hid hrow
 generalize w4.alloc (.cells #[.int .i64 1,.int .i64 0,.int .i64 1,.int .i64 0,.int .i64 1,.slice t1 0 d1,.slice t2 0 d2] 25)=w5 at Km Kf Ka⊢
 clear hrow hu5 hpb Kl Ke
 have Ku:=hid (show w5.drew.heap[pb]? = some (.cells #[.int .i64 1,.int .i64 0,.int .i64 1,.int .i64 0,.int .i64 1,.slice t1 0 d1,.slice t2 0 d2] 25 (0,0)) from Ka.out)
 have hHeld:w5.drew.heap[pb]? = some (.cells #[.int .i64 1,.int .i64 0,.int .i64 1,.int .i64 0,.int .i64 1,.slice t1 0 d1,.slice t2 0 d2] 25 (0,0)):=Ka.out
 refine wp_region_l (fun W=>W.heap[pb]? = some (.cells #[.int .i64 1,.int .i64 0,.int .i64 1,.int .i64 0,.int .i64 1,.slice t1 0 d1,.slice t2 0 d2] 25 (0,0))) 16 17 rfl (by kernel_rfl) ?_
 refine wpAnyL_one 0 rfl (by kernel_rfl) (fun K hK=>?_)
 go_simp
 refine hK.out _ _ (fun _=>hHeld) ?_
 clear hK K
 (try simp only [Act.put,List.setIfInBounds_toArray,List.set_cons_zero,List.set_cons_succ])
 refine wpAnyL_one 1 rfl (by kernel_rfl) (fun K hK=>?_)
 go_simp
 go_at_call 13
 refine (lawNum_any _ _ (by omega)).mono ?_
 rintro e W ⟨rfl,hww⟩
 obtain rfl:=hww.symm
 refine hK.out _ _ (fun _=>hHeld) ?_
 clear hK K
 (try simp only [Act.put,List.setIfInBounds_toArray,List.set_cons_zero,List.set_cons_succ])
 refine wpAnyL_one 2 rfl (by kernel_rfl) (fun K hK=>?_)
 go_simp
 refine hK.out _ _ (fun _=>hHeld) ?_
 clear hK K
 (try simp only [Act.put,List.setIfInBounds_toArray,List.set_cons_zero,List.set_cons_succ])
 refine wpAnyL_one 3 rfl (by kernel_rfl) (fun K hK=>?_)
 go_simp
 refine hK.out _ _ (fun _=>hHeld) ?_
 clear hK K
 (try simp only [Act.put,List.setIfInBounds_toArray,List.set_cons_zero,List.set_cons_succ])
 refine wpAnyL_one 4 rfl (by kernel_rfl) (fun K hK=>?_)
 go_simp
 refine hK.out _ _ (fun _=>hHeld) ?_
 clear hK K
 (try simp only [Act.put,List.setIfInBounds_toArray,List.set_cons_zero,List.set_cons_succ])
 refine wpAnyL_one 5 rfl (by kernel_rfl) (fun K hK=>?_)
 go_simp
 refine hK.out _ _ (fun _=>hHeld) ?_
 clear hK K
 (try simp only [Act.put,List.setIfInBounds_toArray,List.set_cons_zero,List.set_cons_succ])
 refine wpAnyL_one 6 rfl (by kernel_rfl) (fun K hK=>?_)
 go_simp
 refine hK.out _ _ (fun _=>hHeld) ?_
 clear hK K
 (try simp only [Act.put,List.setIfInBounds_toArray,List.set_cons_zero,List.set_cons_succ])
 refine wpAnyL_one 7 rfl (by kernel_rfl) (fun K hK=>?_)
 go_simp
 refine hK.out _ _ (fun _=>hHeld) ?_
 clear hK K
 (try simp only [Act.put,List.setIfInBounds_toArray,List.set_cons_zero,List.set_cons_succ])
 refine wpAnyL_one 8 rfl (by kernel_rfl) (fun K hK=>?_)
 go_simp
 go_at_call 13
 refine (lawNum_any _ _ (by omega)).mono ?_
 rintro e W ⟨rfl,hww⟩
 obtain rfl:=hww.symm
 refine hK.out _ _ (fun _=>hHeld) ?_
 clear hK K
 (try simp only [Act.put,List.setIfInBounds_toArray,List.set_cons_zero,List.set_cons_succ])
 refine wpAnyL_one 9 rfl (by kernel_rfl) (fun K hK=>?_)
 go_simp
 refine hK.out _ _ (fun _=>hHeld) ?_
 clear hK K
 (try simp only [Act.put,List.setIfInBounds_toArray,List.set_cons_zero,List.set_cons_succ])
 refine wpAnyL_one 10 rfl (by kernel_rfl) (fun K hK=>?_)
 go_simp
 refine hK.out _ _ (fun _=>hHeld) ?_
 clear hK K
 (try simp only [Act.put,List.setIfInBounds_toArray,List.set_cons_zero,List.set_cons_succ])
 refine wpAnyL_one 11 rfl (by kernel_rfl) (fun K hK=>?_)
 go_simp
 refine hK.out _ _ (fun _=>hHeld) ?_
 clear hK K
 (try simp only [Act.put,List.setIfInBounds_toArray,List.set_cons_zero,List.set_cons_succ])
 refine' wpAnyL_take 12 [16] (v:=_) rfl (by kernel_rfl) (by kernel_rfl) (by kernel_rfl) (by kernel_rfl) (by simp) (fun _ _ _ h=>h) (Or.inl ⟨by rfl,?hy12⟩) (by assumption) ?rest12
 case hy12=>(intro wS hSw;obtain ⟨⟨r0,r1,r2,r3,r4,r5,r6⟩,-,-⟩:=verCells hSw;go_simp;(try with_reducible rfl))
 (try simp only [Act.put,List.setIfInBounds_toArray,List.set_cons_zero,List.set_cons_succ])
 refine wpAnyL_one 13 rfl (by kernel_rfl) (fun K hK=>?_)
 go_simp
 go_at_call 11
 refine (lawFirst_any _).mono ?_
 rintro e w6 ⟨rfl,hu6⟩
 have hHeld6:=hu6.get hHeld (fun e=>e)
 have Kn:=hid ((Kf.out.keep (Upd.refl (fun _=>False) w5).drew).keep hu6)
 have Kv:=hid (Km.out.drew.trans hu6 (fun _ _ e=>e))
 clear hu6
 refine hK.out _ _ (fun _=>hHeld6) ?_
 clear hK K
 (try simp only [Act.put,List.setIfInBounds_toArray,List.set_cons_zero,List.set_cons_succ])
 refine wpAnyL_one 14 rfl (by kernel_rfl) (fun K hK=>?_)
 go_simp
 go_at_call 24
 refine (sameVer_any Kn.out (firstAt w6) (by decide)).mono ?_
 rintro e w7 ⟨rfl,hu7⟩
 have hHeld7:=hu7.get hHeld6 (fun e=>e)
 have Kw:=hid (Kv.out.trans hu7 (fun _ _ e=>e))
 rw [show sameVerB firstA firstA=true from sameVerB_iff.2 rfl]
 clear hu7
 refine hK.out _ _ (fun _=>hHeld7) ?_
 clear hK K
 (try simp only [Act.put,List.setIfInBounds_toArray,List.set_cons_zero,List.set_cons_succ])
 refine wpAnyL_one 15 rfl (by kernel_rfl) (fun K hK=>?_)
 go_simp
 refine hK.out _ _ (fun _=>hHeld7) ?_
 clear hK K
 (try simp only [Act.put,List.setIfInBounds_toArray,List.set_cons_zero,List.set_cons_succ])
 refine wpAnyL_one 16 rfl (by kernel_rfl) (fun K hK=>?_)
 go_simp
 refine hK.out _ _ (fun _=>hHeld7) ?_
 clear hK K
 (try simp only [Act.put,List.setIfInBounds_toArray,List.set_cons_zero,List.set_cons_succ])
 refine wpAnyL_done (by kernel_rfl) ?_ _
 go_wp2
 go_ret
 exact ⟨rfl,Kw.out⟩
end Go.Proofs.YtgaidmohdhaonaaGreatDoor
