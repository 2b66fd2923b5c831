/-
  Package strataref10, walked: Decode.
-/
import Derived.Test.YtgaidmohdhaonaaGreatDoorYR
import Derived.Test.YtgaidmohdhaonaaGreatDoorYP
import Derived.Test.YtgaidmohdhaonaaGreatDoorYG
set_option linter.unusedVariables false
set_option linter.unusedSimpArgs false
set_option linter.unnecessarySimpa false
set_option linter.unusedSectionVars false
set_option maxRecDepth 100000
set_option maxHeartbeats 12800000
namespace Go.Proofs.YtgaidmohdhaonaaGreatDoor
open Go Go.RowKit
theorem RnS.rcells {w W:World} {p2 p7 p8 pb:Nat} {g:Option Addr} {c:Nat} {B S:List UInt8} {a1 a2 a3 a4 a5:Int} {st rs:Value} {L:List MV} {s:RdA} {x:MV} (h:RnS w W p2 p7 p8 pb g c B a1 a2 a3 a4 a5 st rs S L s x) :
  W.cell? ⟨pb,0,none⟩=some (.int .i64 x.m.num)∧W.cell? ⟨pb,1,none⟩=some (.int .i64 x.m.count)∧W.cell? ⟨pb,2,none⟩=some (.int .i64 x.m.index)∧W.cell? ⟨pb,3,none⟩=some (.int .i64 x.m.low)∧W.cell? ⟨pb,4,none⟩=some (.int .i64 x.m.clock)∧W.cell? ⟨pb,5,none⟩=some (.int .i64 x.m.bytes)∧W.cell? ⟨pb,6,none⟩=some x.f∧W.cell? ⟨pb,7,none⟩=some x.l:=
 ⟨cell_of_row W pb 0 _ _ _ h.bx,cell_of_row W pb 1 _ _ _ h.bx,cell_of_row W pb 2 _ _ _ h.bx,cell_of_row W pb 3 _ _ _ h.bx,cell_of_row W pb 4 _ _ _ h.bx,cell_of_row W pb 5 _ _ _ h.bx,cell_of_row W pb 6 _ _ _ h.bx,cell_of_row W pb 7 _ _ _ h.bx⟩
theorem refDecode_kept {w:World} {v:Value} {b:List UInt8} (hv:BAt w v b) (hl:b.length≤140737488351232) :
  Calls Tryz.prog 29 #[v] w fun e w'=>DecKept w' w.heap.size e (decodeR b)∧Upd (fun _=>False) w w':=by
 have HV:=hid hv
 obtain ⟨ao,cap,rfl,hc1,hc2,-,hc4⟩:=hv
 obtain ⟨O,hO⟩:∃O,O=decodeR b:=⟨_,rfl⟩
 rw [←hO]
 unfold decodeR at hO
 have Kr:=hid hO
 clear hO
 have Kf:=hid ((Upd.refl (fun _=>False) w).alloc (.cells #[.int .i64 0,.int .i64 0,.int .i64 0,.int .i64 0,.int .i64 0,.slice none 0 0,.slice none 0 0] 25))
 have Ke:=hid (show (w.alloc (.cells #[.int .i64 0,.int .i64 0,.int .i64 0,.int .i64 0,.int .i64 0,.slice none 0 0,.slice none 0 0] 25)).heap[w.heap.size]? = some (.cells (verC 0 0 0 0 0 (.slice none 0 0) (.slice none 0 0)) 25 (0,0)) from heap_alloc_new w _)
 obtain ⟨p2,hp2⟩:∃p2,p2=w.heap.size:=⟨_,rfl⟩
 rw [←hp2] at Ke
 have Kw:=hid hp2
 have Kd:=hid (show w.heap.size≤p2 from by omega)
 clear hp2
 by_cases h8:b.length<8
 ·have HD:=hid (show O=none from by
   rw [Kr.out,if_pos]
   intro e
   have:=congrArg List.length e
   rw [List.length_take] at this
   have e8:magicB.length=8:=rfl
   omega)
  have h8i:(b.length:Int)<8:=by omega
  clear h8 hc4
  go_enter Tryz.func29,Tryz.ntmps29
  go_upto_region 1 with fail
  rw [←Kw.out]
  generalize w.alloc (.cells #[.int .i64 0,.int .i64 0,.int .i64 0,.int .i64 0,.int .i64 0,.slice none 0 0,.slice none 0 0] 25)=W1 at Kf Ke⊢
  obtain ⟨⟨q0,q1,q2,q3,q4,q5,q6⟩,⟨z0,z1,z2,z3,z4,z5,z6⟩,hql⟩:=verCells Ke.out
  have HO:=hid (And.intro (verOut_at Ke.out 0 0 0 0 0 (.slice none 0 0) (.slice none 0 0)) (verOut_upd Kf.out (p:=p2) (fun e=>by have:=Kd.out;omega) 0 0 0 0 0 (.slice none 0 0) (.slice none 0 0)))
  go_wp2
  (try simp only [Exit.inBlock,Exit.then])
  refine bodyPost_ret (results_ver rfl _ _ p2 _ rfl rfl HO.out.1) rfl ?_
  rw [HD.out]
  exact ⟨rfl,HO.out.2⟩
 have h8i:¬(b.length:Int)<8:=by omega
 obtain ⟨g0,o0,rfl⟩:∃g o,ao=some ⟨g,o,none⟩:=by
  obtain ⟨g,o,e,-⟩:=hc4 0 (by omega)
  exact ⟨g,o,e⟩
 have hsub:=HV.out.sub (lo:=0) (n:=8) (by omega)
 rw [Nat.add_zero,Nat.sub_zero,List.drop_zero] at hsub
 have hstr:=run_string_of (hsub.keep Kf.out).bytes
 have hq0:((toBA (b.take 8)).toList==(toBA magicB).toList)=decide (b.take 8=magicB):=beq_toBA (b.take 8) magicB
 have hmg:(toBA magicB).toList=[83,84,82,65,84,65,45,77]:=by simp [toBA,magicB]
 rw [hmg] at hq0
 have hq:=hq0
 clear hq0 hmg
 have hlc:(8:Int)≤(cap:Int):=by omega
 have hc0:¬cap=0:=by omega
 have hb8:8≤b.length:=by omega
 clear h8 hc4 hsub
 go_enter Tryz.func29,Tryz.ntmps29
 go_upto_region 1 with fail
 rw [←Kw.out]
 generalize w.alloc (.cells #[.int .i64 0,.int .i64 0,.int .i64 0,.int .i64 0,.int .i64 0,.slice none 0 0,.slice none 0 0] 25)=W1 at Kf Ke hstr⊢
 by_cases hpre:b.take 8=magicB
 ·rw [decide_eq_true hpre] at hq
  have hO:=Kr.out
  rw [if_neg (by simpa using hpre)] at hO
  have Ks:=hid (refReadFrame_any (HV.out.keep Kf.out) hb8 hl)
  have Ki:=hid (readFr_len (b:=b) (a:=8))
  obtain ⟨⟨B,en,er⟩,hF⟩:∃F,F=readFr b 8:=⟨_,rfl⟩
  rw [←hF] at Ks hO Ki
  simp only at Ks hO Ki
  have Kt:=hid hO
  clear hO hF hpre
  go_wp2_with fail
  refine Ks.out.mono ?_
  rintro e W2 ⟨vb,rfl,hn2⟩
  clear hq hstr
  have Kg:=hid (Kf.out.trans hn2.upd (fun _ _ e=>e))
  have Kc:=hid (hn2.upd.get Ke.out (fun e=>e))
  by_cases her:er=0
  ·subst her
   by_cases hen:en=b.length
   ·subst hen
    have hnb:((b.length:Int) != (b.length:Int))=false:=by simp
    have hO:=Kt.out
    rw [if_neg (by simp)] at hO
    have Kx:=hid hO
    have Km:=hid hn2.data
    obtain ⟨g,c,hvb,-,-⟩:=hn2.shape
    obtain ⟨N,hN⟩:∃N,N=B.length:=⟨_,rfl⟩
    rw [←hN] at hvb
    subst hvb
    have Ky:=hid hN
    clear hO hn2 hN
    go_upto_region 8 with fail
    have hr7:=heap_alloc_new W2 (.cells #[.slice g N c,.int .i64 0,.bool false] 149)
    have hu7:Upd (fun _=>False) W2 (W2.alloc (.cells #[.slice g N c,.int .i64 0,.bool false] 149)):=(Upd.refl _ _).alloc _
    have hs7:RfS w (W2.alloc (.cells #[.slice g N c,.int .i64 0,.bool false] 149)) p2 W2.heap.size g c B ⟨0,false⟩:=
     ⟨Kg.out.trans hu7 (fun _ _ e=>e),hu7.get Kc.out (fun e=>e),by unfold RrAt;rw [←Ky.out];exact hr7,by rw [←Ky.out];exact Km.out.upd hu7 (fun _ _ e=>e),Nat.zero_le _,Kd.out,Kg.out.size,Ki.out⟩
    have hr8:=heap_alloc_new (W2.alloc (.cells #[.slice g N c,.int .i64 0,.bool false] 149)) (.cells #[.int .i64 0,.int .i64 0,.int .i64 0,.int .i64 0,.int .i64 0,.slice none 0 0,.slice none 0 0] 25)
    have hsz:(W2.alloc (.cells #[.slice g N c,.int .i64 0,.bool false] 149)).heap.size=W2.heap.size+1:=by simp
    rw [hsz] at hr8
    have hu8:Upd (fun _=>False) (W2.alloc (.cells #[.slice g N c,.int .i64 0,.bool false] 149)) ((W2.alloc (.cells #[.slice g N c,.int .i64 0,.bool false] 149)).alloc (.cells #[.int .i64 0,.int .i64 0,.int .i64 0,.int .i64 0,.int .i64 0,.slice none 0 0,.slice none 0 0] 25)):=(Upd.refl _ _).alloc _
    have hp2l:=lt_of_heap Kc.out
    have hd8:DfS w ((W2.alloc (.cells #[.slice g N c,.int .i64 0,.bool false] 149)).alloc (.cells #[.int .i64 0,.int .i64 0,.int .i64 0,.int .i64 0,.int .i64 0,.slice none 0 0,.slice none 0 0] 25)) p2 W2.heap.size (W2.heap.size+1) g c B 0 0 0 0 0 (.slice none 0 0) (.slice none 0 0) [] [] ⟨0,false⟩:=
     ⟨hs7.keep hu8,hr8,by omega,by have:=Kg.out.size;omega,DataN.nil _ _,RunsOwn.nil _ _,by simp,by simp⟩
    have HD:=hid hd8
    obtain ⟨p8,hp8⟩:∃p8,p8=W2.heap.size+1:=⟨_,rfl⟩
    obtain ⟨p7,hp7⟩:∃p7,p7=W2.heap.size:=⟨_,rfl⟩
    rw [←hp8,←hp7] at HD
    rw [←hp8,←hp7]
    generalize (W2.alloc (.cells #[.slice g N c,.int .i64 0,.bool false] 149)).alloc (.cells #[.int .i64 0,.int .i64 0,.int .i64 0,.int .i64 0,.int .i64 0,.slice none 0 0,.slice none 0 0] 25)=W3 at HD⊢
    clear hs7 hr7 hu7 hr8 hsz hu8 hp2l hd8 hp7 hp8 Kc Ke Kg
    rcases hr1:rdN' B ⟨0,false⟩ with ⟨n1,s1⟩
    rcases hr2:rdN' B s1 with ⟨n2,s2⟩
    rcases hr3:rdN' B s2 with ⟨n3,s3⟩
    rcases hr4:rdN' B s3 with ⟨n4,s4⟩
    rcases hr5:rdN' B s4 with ⟨n5,s5⟩
    rcases hr6:rdB' B B.length s5 with ⟨S,s6⟩
    rcases hr7:rdN' B s6 with ⟨n0,s7⟩
    obtain ⟨M,hM⟩:∃M,M=rdMetaG (rdN' B) (rdB' B B.length):=⟨_,rfl⟩
    have Kz:=hid hM
    obtain ⟨K,hK⟩:∃K,K=min n0.toNat 65:=⟨_,rfl⟩
    have Kh:=hid hK
    have HG:=hid (show rdVerG (rdN' B) (rdB' B B.length) (rdB' B B.length)=((⟨n1,n2,n3,n4,n5,S,(rdRunsG M K s7).1⟩:VerA),(rdRunsG M K s7).2) from by unfold rdVerG;simp only [hr1,hr2,hr3,hr4,hr5,hr6,hr7,hM,hK])
    have hn0:0≤n0∧n0≤9223372036854775807:=by have h:=rdN'_nonneg B s6;rw [hr7] at h;exact h
    have hn00:=hn0.1
    clear hM hK
    go_wp2_with fail
    refine (HD.out.num hr1).mono ?_
    rintro e X1 ⟨rfl,hd,-⟩
    obtain ⟨⟨q0,q1,q2,q3,q4,q5,q6⟩,⟨z0,z1,z2,z3,z4,z5,z6⟩,hql⟩:=verCells hd.b8
    have HD:Hid (DfS w (X1.setCell ⟨p8,0,none⟩ (.int .i64 n1)) p2 p7 p8 g c B n1 0 0 0 0 (.slice none 0 0) (.slice none 0 0) [] [] s1):=hid (hd.put 0 _ rfl hd.st)
    clear hd hr1
    go_upto_region 9 with fail
    obtain ⟨Y1,hY⟩:∃Y,Y=X1.setCell ⟨p8,0,none⟩ (.int .i64 n1):=⟨_,rfl⟩
    rw [←hY] at HD⊢
    clear hY q0 q1 q2 q3 q4 q5 q6 z0 z1 z2 z3 z4 z5 z6 hql
    go_wp2_with fail
    refine (HD.out.num hr2).mono ?_
    rintro e X2 ⟨rfl,hd,-⟩
    obtain ⟨⟨q0,q1,q2,q3,q4,q5,q6⟩,⟨z0,z1,z2,z3,z4,z5,z6⟩,hql⟩:=verCells hd.b8
    have HD:Hid (DfS w (X2.setCell ⟨p8,1,none⟩ (.int .i64 n2)) p2 p7 p8 g c B n1 n2 0 0 0 (.slice none 0 0) (.slice none 0 0) [] [] s2):=hid (hd.put 1 _ rfl hd.st)
    clear hd hr2
    go_upto_region 10 with fail
    obtain ⟨Y2,hY⟩:∃Y,Y=X2.setCell ⟨p8,1,none⟩ (.int .i64 n2):=⟨_,rfl⟩
    rw [←hY] at HD⊢
    clear hY q0 q1 q2 q3 q4 q5 q6 z0 z1 z2 z3 z4 z5 z6 hql
    go_wp2_with fail
    refine (HD.out.num hr3).mono ?_
    rintro e X3 ⟨rfl,hd,-⟩
    obtain ⟨⟨q0,q1,q2,q3,q4,q5,q6⟩,⟨z0,z1,z2,z3,z4,z5,z6⟩,hql⟩:=verCells hd.b8
    have HD:Hid (DfS w (X3.setCell ⟨p8,2,none⟩ (.int .i64 n3)) p2 p7 p8 g c B n1 n2 n3 0 0 (.slice none 0 0) (.slice none 0 0) [] [] s3):=hid (hd.put 2 _ rfl hd.st)
    clear hd hr3
    go_upto_region 11 with fail
    obtain ⟨Y3,hY⟩:∃Y,Y=X3.setCell ⟨p8,2,none⟩ (.int .i64 n3):=⟨_,rfl⟩
    rw [←hY] at HD⊢
    clear hY q0 q1 q2 q3 q4 q5 q6 z0 z1 z2 z3 z4 z5 z6 hql
    go_wp2_with fail
    refine (HD.out.num hr4).mono ?_
    rintro e X4 ⟨rfl,hd,-⟩
    obtain ⟨⟨q0,q1,q2,q3,q4,q5,q6⟩,⟨z0,z1,z2,z3,z4,z5,z6⟩,hql⟩:=verCells hd.b8
    have HD:Hid (DfS w (X4.setCell ⟨p8,3,none⟩ (.int .i64 n4)) p2 p7 p8 g c B n1 n2 n3 n4 0 (.slice none 0 0) (.slice none 0 0) [] [] s4):=hid (hd.put 3 _ rfl hd.st)
    clear hd hr4
    go_upto_region 12 with fail
    obtain ⟨Y4,hY⟩:∃Y,Y=X4.setCell ⟨p8,3,none⟩ (.int .i64 n4):=⟨_,rfl⟩
    rw [←hY] at HD⊢
    clear hY q0 q1 q2 q3 q4 q5 q6 z0 z1 z2 z3 z4 z5 z6 hql
    go_wp2_with fail
    refine (HD.out.num hr5).mono ?_
    rintro e X5 ⟨rfl,hd,-⟩
    obtain ⟨⟨q0,q1,q2,q3,q4,q5,q6⟩,⟨z0,z1,z2,z3,z4,z5,z6⟩,hql⟩:=verCells hd.b8
    have HD:Hid (DfS w (X5.setCell ⟨p8,4,none⟩ (.int .i64 n5)) p2 p7 p8 g c B n1 n2 n3 n4 n5 (.slice none 0 0) (.slice none 0 0) [] [] s5):=hid (hd.put 4 _ rfl hd.st)
    clear hd hr5
    go_upto_region 13 with fail
    obtain ⟨Y5,hY⟩:∃Y,Y=X5.setCell ⟨p8,4,none⟩ (.int .i64 n5):=⟨_,rfl⟩
    rw [←hY] at HD⊢
    clear hY q0 q1 q2 q3 q4 q5 q6 z0 z1 z2 z3 z4 z5 z6 hql
    go_wp2_with fail
    refine (HD.out.bytes hr6).mono ?_
    rintro e X6 ⟨vs,rfl,hd,-,hds⟩
    obtain ⟨xs,ys,hvs,-⟩:=hds.bat
    obtain ⟨ls,hls⟩:∃ls,ls=S.length:=⟨_,rfl⟩
    rw [←hls] at hvs
    subst hvs
    obtain ⟨⟨q0,q1,q2,q3,q4,q5,q6⟩,⟨z0,z1,z2,z3,z4,z5,z6⟩,hql⟩:=verCells hd.b8
    have HD:Hid (DfS w (X6.setCell ⟨p8,5,none⟩ (.slice xs ls ys)) p2 p7 p8 g c B n1 n2 n3 n4 n5 (.slice xs ls ys) (.slice none 0 0) S [] s6):=hid (hd.put 5 _ rfl hds)
    clear hd hr6 hls hds hn0
    go_upto_region 14 with fail
    obtain ⟨Y6,hY⟩:∃Y,Y=X6.setCell ⟨p8,5,none⟩ (.slice xs ls ys):=⟨_,rfl⟩
    rw [←hY] at HD⊢
    clear hY q0 q1 q2 q3 q4 q5 q6 z0 z1 z2 z3 z4 z5 z6 hql
    go_wp2_with fail
    refine (HD.out.num hr7).mono ?_
    rintro e W11 ⟨rfl,hd11,-⟩
    have Kn:=hid hd11
    clear hd11 hr7 HD
    go_wp2
    go_loopw [10] (fun iv wr=>∃k:Nat,iv=.int .i64 k∧k≤K∧∃ra rc L s,DfS w wr p2 p7 p8 g c B n1 n2 n3 n4 n5 (.slice xs ls ys) (.slice ra (L:List MV).length rc) S L s∧L.length=k∧rdRunsG M K s7=(L.map MV.m++(rdRunsG M (K-k) s).1,(rdRunsG M (K-k) s).2)) (fun iv _=>65-(intOf iv).toNat)
    case atStart=>exact ⟨0,rfl,Nat.zero_le _,none,0,[],s7,Kn.out,rfl,by simp⟩
    case round=>
     obtain ⟨k,rfl,hk,ra,rc,L,s,hd,hLk,hrr⟩:=hrel
     have HD:=hid hd;have Za:=hid hLk;have Kl:=hid hrr
     obtain ⟨wo,rfl⟩:∃wo,wo=wr:=⟨_,rfl⟩
     obtain ⟨⟨e0,e1,e2⟩,-,hp7l⟩:=hd.r.rd.cells
     have hk65:k≤65:=by have:=Kh.out;omega
     obtain ⟨bd,hbd⟩:∃bd,bd=s.bad:=⟨_,rfl⟩
     rw [←hbd] at e2
     have Kj:=hid hbd
     clear hd hLk hrr e0 e1 hbd
     go_upto_region 16 with fail
     go_cut [74] (fun bv wx=>bv=.bool (decide (k<K) && !bd)∧wx=wo)
     case first=>
      by_cases h1:(k:Int)<n0
      ·by_cases h2:(k:Int)≤64
       ·have hkd:decide (k<K)=true:=by have:=Kh.out;simp;omega
        cases bd
        ·skip
         go_wp2
         go_meet
         case rel=>exact ⟨by rw [hkd];rfl,rfl⟩
        ·skip
         go_wp2
         go_meet
         case rel=>exact ⟨by rw [hkd];rfl,rfl⟩
       ·have hkd:decide (k<K)=false:=by have:=Kh.out;simp;omega
        go_wp2
        go_meet
        case rel=>exact ⟨by rw [hkd];rfl,rfl⟩
      ·have hkd:decide (k<K)=false:=by have:=Kh.out;simp;omega
       go_wp2
       go_meet
       case rel=>exact ⟨by rw [hkd];rfl,rfl⟩
     case rest=>
      obtain ⟨hv74,hww⟩:=hcut
      obtain rfl:=hww.symm
      by_cases hgo:k<K∧bd=false
      ·obtain ⟨hg1,hg2⟩:=hgo
       subst hg2
       rw [decide_eq_true hg1] at hv74
       simp only [Bool.not_false,Bool.and_true] at hv74
       subst hv74
       rcases hm1:rdN' B s with ⟨m1,t1⟩
       rcases hm2:rdN' B t1 with ⟨m2,t2⟩
       rcases hm3:rdN' B t2 with ⟨m3,t3⟩
       rcases hm4:rdN' B t3 with ⟨m4,t4⟩
       rcases hm5:rdN' B t4 with ⟨m5,t5⟩
       rcases hm6:rdN' B t5 with ⟨m6,t6⟩
       rcases hm7:rdB' B B.length t6 with ⟨l7,t7⟩
       rcases hm8:rdB' B B.length t7 with ⟨l8,t8⟩
       have Zc:=hid (show rdRunsG M K s7=((L.map MV.m ++ [⟨m1,m2,m3,m4,m5,m6,l7,l8⟩])++(rdRunsG M (K-(k+1)) t8).1,(rdRunsG M (K-(k+1)) t8).2) from by
        have h:=rdRuns_step hg1 Kj.out.symm Kl.out
        have hms:M s=(⟨m1,m2,m3,m4,m5,m6,l7,l8⟩,t8):=by rw [Kz.out];unfold rdMetaG;simp only [hm1,hm2,hm3,hm4,hm5,hm6,hm7,hm8]
        rw [hms] at h
        exact h)
       have Kk:=hid (show k+1≤K from hg1)
       have Ko:=hid (show K≤65 from by have:=Kh.out;omega)
       have Zd:=hid (show l7.length≤1048576 from by have h:=rdB'_len (m:=B.length) (s:=t6) (B:=B) Ki.out;rw [hm7] at h;exact h)
       have Ze:=hid (show l8.length≤1048576 from by have h:=rdB'_len (m:=B.length) (s:=t7) (B:=B) Ki.out;rw [hm8] at h;exact h)
       have Zf:=hid (show L.length≤100 from by have:=Za.out;omega)
       have Zg:=hid hm1;have Zh:=hid hm2;have Zi:=hid hm3;have Zj:=hid hm4;have Zk:=hid hm5;have Zl:=hid hm6;have Zm:=hid hm7;have Zn:=hid hm8
       have Ka:=hid HD.out.box
       clear hm1 hm2 hm3 hm4 hm5 hm6 hm7 hm8 e2 Kn Kl Kx HG Km Kz Kh hg1 hk65 hn00 hp7l hk
       go_upto_region 19 with fail
       obtain ⟨pb,hpb⟩:∃pb,pb=wo.heap.size:=⟨_,rfl⟩
       rw [←hpb] at Ka
       rw [←hpb]
       change Hid (RnS w (wo.alloc (.cells #[.int .i64 0,.int .i64 0,.int .i64 0,.int .i64 0,.int .i64 0,.int .i64 0,.slice none 0 0,.slice none 0 0] 48)) p2 p7 p8 pb g c B n1 n2 n3 n4 n5 (.slice xs ls ys) (.slice ra L.length rc) S L s MV.zero) at Ka
       generalize wo.alloc (.cells #[.int .i64 0,.int .i64 0,.int .i64 0,.int .i64 0,.int .i64 0,.int .i64 0,.slice none 0 0,.slice none 0 0] 48)=V0 at Ka⊢
       clear hpb
       go_wp2_with fail
       refine (Ka.out.num Zg.out).mono ?_
       rintro e V1' ⟨rfl,hd⟩
       have w1:=cell_of_row V1' pb 0 _ _ _ hd.bx;have f1:=frozen_of_row V1' pb 0 _ _ hd.bx;have hbl:=lt_of_heap hd.bx
       have Ka:Hid (RnS w (V1'.setCell ⟨pb,0,none⟩ (.int .i64 m1)) p2 p7 p8 pb g c B n1 n2 n3 n4 n5 (.slice xs ls ys) (.slice ra L.length rc) S L t1 ⟨⟨m1,0,0,0,0,0,[],[]⟩,(.slice none 0 0),(.slice none 0 0)⟩):=hid (hd.set 0 _ ⟨⟨m1,0,0,0,0,0,[],[]⟩,(.slice none 0 0),(.slice none 0 0)⟩ rfl (DataN.nil _ _) (DataN.nil _ _))
       clear hd
       go_upto_region 20 with fail
       obtain ⟨V1,hV⟩:∃Y,Y=V1'.setCell ⟨pb,0,none⟩ (.int .i64 m1):=⟨_,rfl⟩
       rw [←hV] at Ka⊢
       clear hV w1 f1 hbl
       go_wp2_with fail
       refine (Ka.out.num Zh.out).mono ?_
       rintro e V2' ⟨rfl,hd⟩
       have w2:=cell_of_row V2' pb 1 _ _ _ hd.bx;have f2:=frozen_of_row V2' pb 1 _ _ hd.bx;have hbl:=lt_of_heap hd.bx
       have Ka:Hid (RnS w (V2'.setCell ⟨pb,1,none⟩ (.int .i64 m2)) p2 p7 p8 pb g c B n1 n2 n3 n4 n5 (.slice xs ls ys) (.slice ra L.length rc) S L t2 ⟨⟨m1,m2,0,0,0,0,[],[]⟩,(.slice none 0 0),(.slice none 0 0)⟩):=hid (hd.set 1 _ ⟨⟨m1,m2,0,0,0,0,[],[]⟩,(.slice none 0 0),(.slice none 0 0)⟩ rfl (DataN.nil _ _) (DataN.nil _ _))
       clear hd
       go_upto_region 21 with fail
       obtain ⟨V2,hV⟩:∃Y,Y=V2'.setCell ⟨pb,1,none⟩ (.int .i64 m2):=⟨_,rfl⟩
       rw [←hV] at Ka⊢
       clear hV w2 f2 hbl
       go_wp2_with fail
       refine (Ka.out.num Zi.out).mono ?_
       rintro e V3' ⟨rfl,hd⟩
       have w3:=cell_of_row V3' pb 2 _ _ _ hd.bx;have f3:=frozen_of_row V3' pb 2 _ _ hd.bx;have hbl:=lt_of_heap hd.bx
       have Ka:Hid (RnS w (V3'.setCell ⟨pb,2,none⟩ (.int .i64 m3)) p2 p7 p8 pb g c B n1 n2 n3 n4 n5 (.slice xs ls ys) (.slice ra L.length rc) S L t3 ⟨⟨m1,m2,m3,0,0,0,[],[]⟩,(.slice none 0 0),(.slice none 0 0)⟩):=hid (hd.set 2 _ ⟨⟨m1,m2,m3,0,0,0,[],[]⟩,(.slice none 0 0),(.slice none 0 0)⟩ rfl (DataN.nil _ _) (DataN.nil _ _))
       clear hd
       go_upto_region 22 with fail
       obtain ⟨V3,hV⟩:∃Y,Y=V3'.setCell ⟨pb,2,none⟩ (.int .i64 m3):=⟨_,rfl⟩
       rw [←hV] at Ka⊢
       clear hV w3 f3 hbl
       go_wp2_with fail
       refine (Ka.out.num Zj.out).mono ?_
       rintro e V4' ⟨rfl,hd⟩
       have w4:=cell_of_row V4' pb 3 _ _ _ hd.bx;have f4:=frozen_of_row V4' pb 3 _ _ hd.bx;have hbl:=lt_of_heap hd.bx
       have Ka:Hid (RnS w (V4'.setCell ⟨pb,3,none⟩ (.int .i64 m4)) p2 p7 p8 pb g c B n1 n2 n3 n4 n5 (.slice xs ls ys) (.slice ra L.length rc) S L t4 ⟨⟨m1,m2,m3,m4,0,0,[],[]⟩,(.slice none 0 0),(.slice none 0 0)⟩):=hid (hd.set 3 _ ⟨⟨m1,m2,m3,m4,0,0,[],[]⟩,(.slice none 0 0),(.slice none 0 0)⟩ rfl (DataN.nil _ _) (DataN.nil _ _))
       clear hd
       go_upto_region 23 with fail
       obtain ⟨V4,hV⟩:∃Y,Y=V4'.setCell ⟨pb,3,none⟩ (.int .i64 m4):=⟨_,rfl⟩
       rw [←hV] at Ka⊢
       clear hV w4 f4 hbl
       go_wp2_with fail
       refine (Ka.out.num Zk.out).mono ?_
       rintro e V5' ⟨rfl,hd⟩
       have w5:=cell_of_row V5' pb 4 _ _ _ hd.bx;have f5:=frozen_of_row V5' pb 4 _ _ hd.bx;have hbl:=lt_of_heap hd.bx
       have Ka:Hid (RnS w (V5'.setCell ⟨pb,4,none⟩ (.int .i64 m5)) p2 p7 p8 pb g c B n1 n2 n3 n4 n5 (.slice xs ls ys) (.slice ra L.length rc) S L t5 ⟨⟨m1,m2,m3,m4,m5,0,[],[]⟩,(.slice none 0 0),(.slice none 0 0)⟩):=hid (hd.set 4 _ ⟨⟨m1,m2,m3,m4,m5,0,[],[]⟩,(.slice none 0 0),(.slice none 0 0)⟩ rfl (DataN.nil _ _) (DataN.nil _ _))
       clear hd
       go_upto_region 24 with fail
       obtain ⟨V5,hV⟩:∃Y,Y=V5'.setCell ⟨pb,4,none⟩ (.int .i64 m5):=⟨_,rfl⟩
       rw [←hV] at Ka⊢
       clear hV w5 f5 hbl
       go_wp2_with fail
       refine (Ka.out.num Zl.out).mono ?_
       rintro e V6' ⟨rfl,hd⟩
       have w6:=cell_of_row V6' pb 5 _ _ _ hd.bx;have f6:=frozen_of_row V6' pb 5 _ _ hd.bx;have hbl:=lt_of_heap hd.bx
       have Ka:Hid (RnS w (V6'.setCell ⟨pb,5,none⟩ (.int .i64 m6)) p2 p7 p8 pb g c B n1 n2 n3 n4 n5 (.slice xs ls ys) (.slice ra L.length rc) S L t6 ⟨⟨m1,m2,m3,m4,m5,m6,[],[]⟩,(.slice none 0 0),(.slice none 0 0)⟩):=hid (hd.set 5 _ ⟨⟨m1,m2,m3,m4,m5,m6,[],[]⟩,(.slice none 0 0),(.slice none 0 0)⟩ rfl (DataN.nil _ _) (DataN.nil _ _))
       clear hd
       go_upto_region 25 with fail
       obtain ⟨V6,hV⟩:∃Y,Y=V6'.setCell ⟨pb,5,none⟩ (.int .i64 m6):=⟨_,rfl⟩
       rw [←hV] at Ka⊢
       clear hV w6 f6 hbl
       go_wp2_with fail
       refine (Ka.out.bytes Zm.out).mono ?_
       rintro e V7' ⟨v7,rfl,hd,hdat⟩
       obtain ⟨x7,y7,e7,-⟩:=hdat.bat
       obtain ⟨u7,hu7⟩:∃u,u=l7.length:=⟨_,rfl⟩
       rw [←hu7] at e7
       subst e7
       have w7:=cell_of_row V7' pb 6 _ _ _ hd.bx;have f7:=frozen_of_row V7' pb 6 _ _ hd.bx;have hbl:=lt_of_heap hd.bx
       have Ka:Hid (RnS w (V7'.setCell ⟨pb,6,none⟩ (.slice x7 u7 y7)) p2 p7 p8 pb g c B n1 n2 n3 n4 n5 (.slice xs ls ys) (.slice ra L.length rc) S L t7 ⟨⟨m1,m2,m3,m4,m5,m6,l7,[]⟩,.slice x7 u7 y7,(.slice none 0 0)⟩):=hid (hd.set 6 _ ⟨⟨m1,m2,m3,m4,m5,m6,l7,[]⟩,.slice x7 u7 y7,(.slice none 0 0)⟩ rfl hdat (DataN.nil _ _))
       clear hd hdat hu7
       go_upto_region 26 with fail
       obtain ⟨V7,hV⟩:∃Y,Y=V7'.setCell ⟨pb,6,none⟩ (.slice x7 u7 y7):=⟨_,rfl⟩
       rw [←hV] at Ka⊢
       clear hV w7 f7 hbl
       go_wp2_with fail
       refine (Ka.out.bytes Zn.out).mono ?_
       rintro e V8' ⟨v8,rfl,hd,hdat⟩
       obtain ⟨x8,y8,e8,-⟩:=hdat.bat
       obtain ⟨u8,hu8⟩:∃u,u=l8.length:=⟨_,rfl⟩
       rw [←hu8] at e8
       subst e8
       have w8:=cell_of_row V8' pb 7 _ _ _ hd.bx;have f8:=frozen_of_row V8' pb 7 _ _ hd.bx;have hbl:=lt_of_heap hd.bx
       have Ka:Hid (RnS w (V8'.setCell ⟨pb,7,none⟩ (.slice x8 u8 y8)) p2 p7 p8 pb g c B n1 n2 n3 n4 n5 (.slice xs ls ys) (.slice ra L.length rc) S L t8 ⟨⟨m1,m2,m3,m4,m5,m6,l7,l8⟩,.slice x7 u7 y7,.slice x8 u8 y8⟩):=hid (hd.set 7 _ ⟨⟨m1,m2,m3,m4,m5,m6,l7,l8⟩,.slice x7 u7 y7,.slice x8 u8 y8⟩ rfl hd.xf hdat)
       clear hd hdat hu8
       go_upto_region 27 with fail
       obtain ⟨V8,hV⟩:∃Y,Y=V8'.setCell ⟨pb,7,none⟩ (.slice x8 u8 y8):=⟨_,rfl⟩
       rw [←hV] at Ka⊢
       clear hV w8 f8 hbl
       obtain ⟨ao2,cp2,w9,hr9,hro9,hu9⟩:=Ka.out.d.runs.push ⟨⟨m1,m2,m3,m4,m5,m6,l7,l8⟩,.slice x7 u7 y7,.slice x8 u8 y8⟩ Ka.out.xf.1 Ka.out.xl.1 Ka.out.d.r.upd.size (by have:=Zf.out;omega) rfl
       obtain ⟨hb9,hd9⟩:=Ka.out.d.join hro9 hu9 ⟨Zd.out,Ze.out⟩ ⟨Ka.out.xf.2,Ka.out.xl.2⟩
       obtain ⟨L2,hL2⟩:∃L2,L2=L.length+1:=⟨_,rfl⟩
       rw [←hL2] at hr9 hd9
       obtain ⟨LL,hLL⟩:∃LL,LL=L.length:=⟨_,rfl⟩
       rw [←hLL] at hr9
       have hr9':(Builtin.append_ #[23,23] 23 #[.slice ra LL rc,.slice (some ⟨V8.heap.size,0,none⟩) 1 1]).run Tryz.prog (V8.alloc (.cells #[.int .i64 m1,.int .i64 m2,.int .i64 m3,.int .i64 m4,.int .i64 m5,.int .i64 m6,.slice x7 u7 y7,.slice x8 u8 y8] 48))=.ok (.slice ao2 L2 cp2) w9:=hr9
       have Zo:=hid hr9'
       have Zp:=hid hd9;have Zq:=hid hL2
       have c6:=(verCells Ka.out.d.b8).1.2.2.2.2.2.2
       rw [←hLL] at c6
       have hp8l:=lt_of_heap Ka.out.d.b8
       obtain ⟨w0,w1,w2,w3,w4,w5,w6,w7⟩:=Ka.out.rcells
       simp only at w0 w1 w2 w3 w4 w5 w6 w7
       have hbl:=lt_of_heap Ka.out.bx
       have j6:=(verCells hb9).1.2.2.2.2.2.2;have g6:=(verCells hb9).2.1.2.2.2.2.2.2;have hp9:=lt_of_heap hb9
       clear hr9 hr9' hro9 hu9 hb9 hd9 hLL hL2
       have hk65:k≤65:=by have:=Kk.out;have:=Ko.out;omega
       go_wp2_with (at_builtin;refine wpList_append_run rfl _ _ _ rfl rfl rfl Zo.out ?_)
       go_roundw
       case rel=>exact ⟨k+1,by simp,Kk.out,ao2,cp2,L ++ [⟨⟨m1,m2,m3,m4,m5,m6,l7,l8⟩,.slice x7 u7 y7,.slice x8 u8 y8⟩],t8,by rw [List.length_append,List.length_singleton,←Zq.out];exact Zp.out,by rw [List.length_append,List.length_singleton,Za.out],by rw [List.map_append];exact Zc.out⟩
       case measure=>simp [intOf];have:=Kk.out;have:=Ko.out;omega
      ·have hbb:(decide (k<K) && !bd)=false:=by
        cases bd
        ·have:¬k<K:=fun e=>hgo ⟨e,rfl⟩
         simp [this]
        ·simp
       rw [hbb] at hv74
       subst hv74
       have Kp:=hid (rdRuns_end (M:=M) (K:=K) (k:=k) (s0:=s7) (s:=s) (pre:=L.map MV.m) (by rw [←Kj.out];exact hgo) Kl.out)
       clear hgo hbb Kl
       have hup:=HD.out.r.upd
       have HX:=hid (show O=if bd=true then none else if okA ⟨n1,n2,n3,n4,n5,S,L.map MV.m⟩∧encodeB ⟨n1,n2,n3,n4,n5,S,L.map MV.m⟩=b then some ⟨n1,n2,n3,n4,n5,S,L.map MV.m⟩ else none from by rw [Kx.out,HG.out,Kp.out,Kj.out])
       have hver:=verOf (a1:=n1) (a2:=n2) (a3:=n3) (a4:=n4) (a5:=n5) HD.out.st.1 HD.out.runs
       obtain ⟨⟨v0,v1,v2,v3,v4,v5,v6⟩,-,hp8l⟩:=verCells HD.out.b8
       obtain ⟨LL,hLL⟩:∃LL,LL=L.length:=⟨_,rfl⟩
       have Ku:=hid (show DfS w wo p2 p7 p8 g c B n1 n2 n3 n4 n5 (.slice xs ls ys) (.slice ra LL rc) S L s from by rw [hLL];exact HD.out)
       rw [←hLL] at hver v6
       have Kq:=hid hver
       clear hver hLL HD HG Kp
       by_cases hok:okA ⟨n1,n2,n3,n4,n5,S,L.map MV.m⟩=true
       ·have Kv:=hid (refEncode_any Kq.out hok)
        go_wp2_with fail
        refine Kv.out.mono ?_
        rintro e Wa ⟨ve,rfl,hne⟩
        have Kb:=hid (Ku.out.keep hne.upd)
        have Zr:=hid (refSame_any hne.data.bat (HV.out.keep Kb.out.r.upd))
        clear v0 v1 v2 v3 v4 v5 v6 hp8l e2 hp7l hup hne
        obtain ⟨⟨-,-,e2⟩,-,hp7l⟩:=Kb.out.r.rd.cells
        rw [←Kj.out] at e2
        have hr2:=Kb.out.r.b2
        have hup:=Kb.out.r.upd
        cases bd
        rotate_left
        ·skip
         have HD:=hid (show O=none from by rw [HX.out,if_pos rfl])
         clear hok
         obtain ⟨⟨q0,q1,q2,q3,q4,q5,q6⟩,⟨z0,z1,z2,z3,z4,z5,z6⟩,hql⟩:=verCells hr2
         have HO:=hid (And.intro (verOut_at hr2 0 0 0 0 0 (.slice none 0 0) (.slice none 0 0)) (verOut_upd hup (p:=p2) (fun e=>by have:=Kd.out;omega) 0 0 0 0 0 (.slice none 0 0) (.slice none 0 0)))
         go_wp2
         (try simp only [Exit.inBlock,Exit.then])
         refine bodyPost_ret (results_ver rfl _ _ p2 _ rfl rfl HO.out.1) rfl ?_
         rw [HD.out]
         exact ⟨rfl,HO.out.2⟩
        go_wp2_with fail
        refine Zr.out.mono ?_
        rintro e Wb ⟨rfl,hwb⟩
        obtain rfl:=hwb.symm
        by_cases heq:encodeB ⟨n1,n2,n3,n4,n5,S,L.map MV.m⟩=b
        ·have hed:decide (encodeB ⟨n1,n2,n3,n4,n5,S,L.map MV.m⟩=b)=true:=by simpa using heq
         rw [hed]
         have HF:=hid (show O=some ⟨n1,n2,n3,n4,n5,S,L.map MV.m⟩ from by rw [HX.out,if_neg (by decide),if_pos ⟨hok,heq⟩])
         obtain ⟨⟨v0,v1,v2,v3,v4,v5,v6⟩,-,hp8l⟩:=verCells Kb.out.b8
         obtain ⟨⟨q0,q1,q2,q3,q4,q5,q6⟩,⟨z0,z1,z2,z3,z4,z5,z6⟩,hql⟩:=verCells hr2
         have hne8:p8≠p2:=Kb.out.ne
         have hne8':p2≠p8:=hne8.symm
         have HO:=hid (And.intro (verOut_at hr2 n1 n2 n3 n4 n5 (.slice xs ls ys) (.slice ra LL rc)) (And.intro (verOut_upd hup (p:=p2) (fun e=>by have:=Kd.out;omega) n1 n2 n3 n4 n5 (.slice xs ls ys) (.slice ra LL rc)) (verOut_upd (S:=fun k=>k=p2) (Upd.refl _ Wa) (p:=p2) (fun _=>rfl) n1 n2 n3 n4 n5 (.slice xs ls ys) (.slice ra LL rc))))
         have Zb:=hid (show ∀k,k=p2→∀cur fr,Wa.heap[k]?≠some (.cells cur 5 fr)∧Wa.heap[k]?≠some (.cells cur 48 fr) from by
          intro k hk cur fr
          rw [hk]
          exact ⟨not_ty Kb.out.r.b2 (by decide) cur fr,not_ty Kb.out.r.b2 (by decide) cur fr⟩)
         clear hok heq hed hr2 hup
         go_wp2
         (try simp only [Exit.inBlock,Exit.then])
         refine bodyPost_ret (results_ver rfl _ _ p2 _ rfl rfl HO.out.1) rfl ?_
         rw [HF.out]
         exact ⟨⟨_,rfl,kept_of (Kb.out.st.keepT HO.out.2.2 (fun k e cur fr=>(Zb.out k e cur fr).1)) (Kb.out.runs.keepT HO.out.2.2 Zb.out) Kb.out.own⟩,HO.out.2.1⟩
        ·have hed:decide (encodeB ⟨n1,n2,n3,n4,n5,S,L.map MV.m⟩=b)=false:=by simpa using heq
         rw [hed]
         have HD:=hid (show O=none from by rw [HX.out,if_neg (by decide),if_neg (fun e=>heq e.2)])
         clear hok heq hed
         obtain ⟨⟨q0,q1,q2,q3,q4,q5,q6⟩,⟨z0,z1,z2,z3,z4,z5,z6⟩,hql⟩:=verCells hr2
         have HO:=hid (And.intro (verOut_at hr2 0 0 0 0 0 (.slice none 0 0) (.slice none 0 0)) (verOut_upd hup (p:=p2) (fun e=>by have:=Kd.out;omega) 0 0 0 0 0 (.slice none 0 0) (.slice none 0 0)))
         go_wp2
         (try simp only [Exit.inBlock,Exit.then])
         refine bodyPost_ret (results_ver rfl _ _ p2 _ rfl rfl HO.out.1) rfl ?_
         rw [HD.out]
         exact ⟨rfl,HO.out.2⟩
       ·have hokf:okA ⟨n1,n2,n3,n4,n5,S,L.map MV.m⟩=false:=by simpa using hok
        have Kv:=hid (refEncode_bad Kq.out (fun r hr=>by obtain ⟨y,hy,rfl⟩:=List.mem_map.1 hr;have:=Ku.out.ks y hy;omega) hokf)
        have HD:=hid (show O=none from by rw [HX.out];split;rfl;rw [if_neg (fun e=>hok e.1)])
        clear hok hokf
        go_wp2_with fail
        refine Kv.out.mono ?_
        rintro e Wa ⟨rfl,hua⟩
        have Kb:=hid (Ku.out.keep hua)
        clear v0 v1 v2 v3 v4 v5 v6 hp8l e2 hp7l hup hua
        obtain ⟨⟨-,-,e2⟩,-,hp7l⟩:=Kb.out.r.rd.cells
        rw [←Kj.out] at e2
        have hr2:=Kb.out.r.b2
        have hup:=Kb.out.r.upd
        cases bd
        ·skip
         obtain ⟨⟨q0,q1,q2,q3,q4,q5,q6⟩,⟨z0,z1,z2,z3,z4,z5,z6⟩,hql⟩:=verCells hr2
         have HO:=hid (And.intro (verOut_at hr2 0 0 0 0 0 (.slice none 0 0) (.slice none 0 0)) (verOut_upd hup (p:=p2) (fun e=>by have:=Kd.out;omega) 0 0 0 0 0 (.slice none 0 0) (.slice none 0 0)))
         go_wp2
         (try simp only [Exit.inBlock,Exit.then])
         refine bodyPost_ret (results_ver rfl _ _ p2 _ rfl rfl HO.out.1) rfl ?_
         rw [HD.out]
         exact ⟨rfl,HO.out.2⟩
        ·skip
         obtain ⟨⟨q0,q1,q2,q3,q4,q5,q6⟩,⟨z0,z1,z2,z3,z4,z5,z6⟩,hql⟩:=verCells hr2
         have HO:=hid (And.intro (verOut_at hr2 0 0 0 0 0 (.slice none 0 0) (.slice none 0 0)) (verOut_upd hup (p:=p2) (fun e=>by have:=Kd.out;omega) 0 0 0 0 0 (.slice none 0 0) (.slice none 0 0)))
         go_wp2
         (try simp only [Exit.inBlock,Exit.then])
         refine bodyPost_ret (results_ver rfl _ _ p2 _ rfl rfl HO.out.1) rfl ?_
         rw [HD.out]
         exact ⟨rfl,HO.out.2⟩
   ·have HD:=hid (show O=none from by rw [Kt.out,if_pos (.inr hen)])
    have hnb:(((en:Nat):Int) != (b.length:Int))=true:=by simp;omega
    clear hn2 hen
    obtain ⟨⟨q0,q1,q2,q3,q4,q5,q6⟩,⟨z0,z1,z2,z3,z4,z5,z6⟩,hql⟩:=verCells Kc.out
    have HO:=hid (And.intro (verOut_at Kc.out 0 0 0 0 0 (.slice none 0 0) (.slice none 0 0)) (verOut_upd Kg.out (p:=p2) (fun e=>by have:=Kd.out;omega) 0 0 0 0 0 (.slice none 0 0) (.slice none 0 0)))
    go_wp2
    (try simp only [Exit.inBlock,Exit.then])
    refine bodyPost_ret (results_ver rfl _ _ p2 _ rfl rfl HO.out.1) rfl ?_
    rw [HD.out]
    exact ⟨rfl,HO.out.2⟩
  ·have HD:=hid (show O=none from by rw [Kt.out,if_pos (.inl her)])
   have hnb:(er != 0)=true:=by simp;exact her
   clear hn2 her
   obtain ⟨⟨q0,q1,q2,q3,q4,q5,q6⟩,⟨z0,z1,z2,z3,z4,z5,z6⟩,hql⟩:=verCells Kc.out
   have HO:=hid (And.intro (verOut_at Kc.out 0 0 0 0 0 (.slice none 0 0) (.slice none 0 0)) (verOut_upd Kg.out (p:=p2) (fun e=>by have:=Kd.out;omega) 0 0 0 0 0 (.slice none 0 0) (.slice none 0 0)))
   go_wp2
   (try simp only [Exit.inBlock,Exit.then])
   refine bodyPost_ret (results_ver rfl _ _ p2 _ rfl rfl HO.out.1) rfl ?_
   rw [HD.out]
   exact ⟨rfl,HO.out.2⟩
 ·rw [decide_eq_false hpre] at hq
  have HD:=hid (show O=none from by rw [Kr.out,if_pos hpre])
  clear hpre
  obtain ⟨⟨q0,q1,q2,q3,q4,q5,q6⟩,⟨z0,z1,z2,z3,z4,z5,z6⟩,hql⟩:=verCells Ke.out
  have HO:=hid (And.intro (verOut_at Ke.out 0 0 0 0 0 (.slice none 0 0) (.slice none 0 0)) (verOut_upd Kf.out (p:=p2) (fun e=>by have:=Kd.out;omega) 0 0 0 0 0 (.slice none 0 0) (.slice none 0 0)))
  go_wp2
  (try simp only [Exit.inBlock,Exit.then])
  refine bodyPost_ret (results_ver rfl _ _ p2 _ rfl rfl HO.out.1) rfl ?_
  rw [HD.out]
  exact ⟨rfl,HO.out.2⟩
end Go.Proofs.YtgaidmohdhaonaaGreatDoor
