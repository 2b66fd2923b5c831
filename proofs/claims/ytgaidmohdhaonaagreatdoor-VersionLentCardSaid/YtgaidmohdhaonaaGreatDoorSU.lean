/-
  manifest.Sweep, walked.
-/
import Derived.Test.YtgaidmohdhaonaaGreatDoorST
import Derived.Test.YtgaidmohdhaonaaGreatDoorYJ
import Derived.Test.YtgaidmohdhaonaaGreatDoorZA
import Derived.Test.YtgaidmohdhaonaaGreatDoorZC
import Derived.Test.YtgaidmohdhaonaaGreatDoorGC
import Derived.Test.YtgaidmohdhaonaaGreatDoorGE
import Derived.Test.YtgaidmohdhaonaaGreatDoorYT
import Derived.Test.YtgaidmohdhaonaaGreatDoorSB
import Derived.Test.YtgaidmohdhaonaaGreatDoorYL
import Derived.Test.YtgaidmohdhaonaaGreatDoorYG
set_option linter.unusedVariables false
set_option linter.unusedSimpArgs false
set_option linter.unnecessarySimpa false
set_option linter.unusedSectionVars false
set_option maxRecDepth 100000
set_option maxHeartbeats 12800000
namespace Go.Proofs.YtgaidmohdhaonaaGreatDoor
open Go Go.RowKit
theorem rowStr:RowTy 73 9 1 16:=by
 obtain ⟨i0,hi,hz0,hz1,hz2⟩:=info_parts Tryz.info9'
 exact ⟨Tryz.underlying73,⟨i0,_,hi,hz0,hz1,hz2,rfl⟩,by decide,by decide⟩
def Strs (w W:World) (v:Value) (l:List ByteArray):Prop:=SRow W 9 1 v l.length (l.map Value.string)∧∀b,v.ownBlock=some b→w.heap.size≤b
theorem Strs.nil (w W:World):Strs w W (.slice none 0 0) []:=⟨SRow.nil _ _ _,fun b e=>by cases e⟩
theorem Strs.upd {S:Nat→Prop} {w W W':World} {v:Value} {l:List ByteArray} (h:Strs w W v l) (hu:Upd S W W') (hn:∀b,v.ownBlock=some b→¬S b):Strs w W' v l:=⟨SRow.upd h.1 hu hn,h.2⟩
theorem Strs.lt {w W:World} {v:Value} {l:List ByteArray} (h:Strs w W v l) (b:Nat) (hb:v.ownBlock=some b):b<W.heap.size:=h.1.lt b hb
theorem Strs.shape {w W:World} {v:Value} {l:List ByteArray} (h:Strs w W v l):∃ao c,v=.slice ao l.length c∧l.length≤c∧c≤9223372036854775807:=by
 obtain ⟨ao,c,e,h1,h2,-⟩:=h.1.slice
 exact ⟨ao,c,e,h1,h2⟩
theorem Strs.at {w W:World} {v:Value} {l:List ByteArray} (h:Strs w W v l) {k:Nat} (hk:k<l.length):∃g c,v=.slice (some ⟨g,0,none⟩) l.length c∧g<W.heap.size∧W.cell? ⟨g,k,none⟩=some (.string l[k]):=by
 exact SRow.cell h.1 (by rw [List.getElem?_map,List.getElem?_eq_getElem hk];rfl)
theorem Strs.push {w W:World} {ao:Option Addr} {n c:Nat} {l:List ByteArray} (h:Strs w W (.slice ao n c) l) (hn:n=l.length) (hw:w.heap.size≤W.heap.size) (f:ByteArray) (hl:l.length≤1000000) :
  ∃ao' c' W',(Builtin.append_ #[73,73] 73 #[.slice ao n c,.slice (some ⟨W.heap.size,0,none⟩) 1 1]).run Tryz.prog (W.alloc (.cells #[.string f] 9))=.ok (.slice ao' (n+1) c') W'∧Strs w W' (.slice ao' (n+1) c') (l ++ [f])∧
   Upd (fun b=>(Value.slice ao n c).ownBlock=some b) W W'∧∀b,(Value.slice ao' (n+1) c').ownBlock=some b→(Value.slice ao n c).ownBlock=some b∨W.heap.size≤b:=by
 subst hn
 obtain ⟨v',W',hrun,hrow,hu,ho,-⟩:=rowStr.push h.1 (M:=[.string f]) rfl (by simp [Value.oneCell']) (by omega) 73
 obtain ⟨ao',c',rfl,-⟩:=hrow.slice
 refine ⟨ao',c',W',hrun,⟨?_,fun b e=>(ho b e).elim (h.2 b) (fun e=>by omega)⟩,hu,ho⟩
 rw [List.length_append,List.map_append]
 exact hrow
structure SwS (w W:World) (s s':DS) (m:Nat) (E:List (ByteArray×Value)) (lv gv:Value) (L gone:List ByteArray):Prop where
 st:Step w W s s'
 mp:MapIs W m E
 lr:Strs w W lv L
 gr:Strs w W gv gone
 mn:w.heap.size≤m∧m∉s'.blocks
 ln:∀b,lv.ownBlock=some b→b∉s'.blocks∧b≠m
 gn:∀b,gv.ownBlock=some b→b∉s'.blocks∧b≠m∧¬lv.ownBlock=some b
 two:2∉s'.blocks∧TabP W∧2<w.heap.size
section
variable {w W W':World} {s s' s2:DS} {m:Nat} {E:List (ByteArray×Value)} {lv gv:Value} {L gone:List ByteArray}
theorem SwS.quiet (h:SwS w W s s' m E lv gv L gone) (hu:Upd (fun _=>False) W W'):SwS w W' s s' m E lv gv L gone:=
 ⟨h.st.trans (Step.of_upd h.st.ins hu),h.mp.upd hu (fun e=>e),h.lr.upd hu (fun _ _ e=>e),h.gr.upd hu (fun _ _ e=>e),h.mn,h.ln,h.gn,h.two.1,h.two.2.1.keep hu,h.two.2.2⟩
theorem SwS.del (h:SwS w W s s' m E lv gv L gone) (hst:Step W W' s' s2):SwS w W' s s2 m E lv gv L gone:=by
 have hb:∀b,b<W.heap.size→b∉s'.blocks→b∉s2.blocks:=fun b h1 h2 e=>(hst.foot b e).elim h2 (fun e=>by omega)
 exact ⟨h.st.trans hst,h.mp.upd hst.upd h.mn.2,h.lr.upd hst.upd (fun b e=>(h.ln b e).1),h.gr.upd hst.upd (fun b e=>(h.gn b e).1),⟨h.mn.1,hb m h.mp.lt h.mn.2⟩,fun b e=>⟨hb b (h.lr.lt b e) (h.ln b e).1,(h.ln b e).2⟩,fun b e=>⟨hb b (h.gr.lt b e) (h.gn b e).1,(h.gn b e).2⟩,hst.two h.two.1 h.two.2.1,h.two.2.1.upd hst.upd h.two.1,h.two.2.2⟩
theorem SwS.push {ao:Option Addr} {n c:Nat} (h:SwS w W s s' m E lv (.slice ao n c) L gone) (hn:n=gone.length) (f:ByteArray) (hl:gone.length≤1000000) :
  ∃ao' c' W',(Builtin.append_ #[73,73] 73 #[.slice ao n c,.slice (some ⟨W.heap.size,0,none⟩) 1 1]).run Tryz.prog (W.alloc (.cells #[.string f] 9))=.ok (.slice ao' (n+1) c') W'∧SwS w W' s s' m E lv (.slice ao' (n+1) c') L (gone ++ [f]):=by
 obtain ⟨ao',c',W',hrun,hs,hu,ho⟩:=h.gr.push hn h.st.upd.size f hl
 refine ⟨ao',c',W',hrun,⟨⟨h.st.ins.upd hu (fun b hb e=>(h.gn b e).1 hb),h.st.p,h.st.upd.trans hu (fun b hb e=>by have:=h.gr.2 b e;omega),h.st.foot⟩,h.mp.upd hu (fun e=>(h.gn m e).2.1 rfl),h.lr.upd hu (fun b e e2=>(h.gn b e2).2.2 e),hs,h.mn,h.ln,fun b e=>?_,h.two.1,h.two.2.1.upd hu (fun e=>by have:=h.gr.2 2 e;have:=h.two.2.2;omega),h.two.2.2⟩⟩
 ·rcases ho b e with e|e
  ·exact h.gn b e
  ·refine ⟨fun e2=>by have:=h.st.ins.lt b e2;omega,fun e2=>by have:=h.mp.lt;omega,fun e2=>by have:=h.lr.lt b e2;omega⟩
end
theorem sweep_any {w:World} {s:DS} {v:Value} {x:VerA} (hT:TabP w) (hs:s.In w) (h2:2∉s.blocks) (pre:ByteArray) (hp:pre.size≤140737488355328) (hv:VerAt w v x) (hin:∀r∈x.runs,r.first.length≤140737488351232∧r.last.length≤140737488351232∧r.num≤9223372036854775807) :
  Calls Tryz.prog 42 #[.pointer (some ⟨s.p,0,none⟩),.string pre,v] w fun e w'=>∃gv,e=.returned (.tuple #[gv,.int .i64 (sweepP s.abs pre x).1.2])∧Strs w w' gv (sweepP s.abs pre x).1.1∧∃s2,Step w w' s s2∧s2.abs=(sweepP s.abs pre x).2∧∀b,gv.ownBlock=some b→b∉s2.blocks:=by
 obtain ⟨O,hO⟩:∃O,O=sweepP s.abs pre x:=⟨_,rfl⟩
 rw [←hO]
 unfold sweepP at hO
 have HO:=hid hO;have HS:=hid hs;have HV:=hid hv;have Kt:=hid hin;have HT:=hid hT;have H2:=hid h2;have HP:=hid hp
 obtain ⟨s1,d1,s2,d2,rfl,hb,hr⟩:=hv
 obtain ⟨m1,hm1⟩:∃m,m=x.state.length:=⟨_,rfl⟩
 obtain ⟨nx,hnx⟩:∃m,m=x.runs.length:=⟨_,rfl⟩
 rw [←hm1,←hnx] at HV⊢
 have HM:=hid (And.intro hm1 hnx)
 have HR:=hid hr
 have hmx:(m1:Int)≤9223372036854775807∧(nx:Int)≤9223372036854775807:=by
  obtain ⟨ao,cap,e,q1,q2,-⟩:=hb
  obtain ⟨ao',cap',e',q1',q2',-⟩:=hr
  omega
 have hu1:=(Upd.refl (fun _=>False) w).alloc (.cells #[.int .i64 x.gen,.int .i64 x.flushed,.int .i64 x.next,.int .i64 x.low,.int .i64 x.clock,.slice s1 m1 d1,.slice s2 nx d2] 25)
 have hr1:=heap_alloc_new w (.cells #[.int .i64 x.gen,.int .i64 x.flushed,.int .i64 x.next,.int .i64 x.low,.int .i64 x.clock,.slice s1 m1 d1,.slice s2 nx d2] 25)
 clear hs hin hT h2 hO hb hr hm1 hnx
 go_enter Tryz.func42,Tryz.ntmps42
 go_upto_region 1 with fail
 obtain ⟨p5,hp5⟩:∃p,p=w.heap.size:=⟨_,rfl⟩
 rw [←hp5] at hr1⊢
 have Kh:=hid hu1;have Kk:=hid hr1
 generalize w.alloc (.cells #[.int .i64 x.gen,.int .i64 x.flushed,.int .i64 x.next,.int .i64 x.low,.int .i64 x.clock,.slice s1 m1 d1,.slice s2 nx d2] 25)=W1 at Kh Kk⊢
 clear hu1 hr1 hp5
 have Zp:=hid (HS.out.upd Kh.out (fun _ _ e=>e))
 have Za:=hid (Step.of_upd HS.out Kh.out)
 have HA:=hid (asked_any Zp.out pre HP.out)
 obtain ⟨ae,hae⟩:∃a,a=askedP s.abs pre:=⟨_,rfl⟩
 rw [←hae] at HA HO
 have Zu:=hid (show 0≤ae∧ae≤100 from by
  rw [hae]
  unfold askedP
  rcases (show lookP s.abs (pre++tempB) true=3∨lookP s.abs (pre++tempB) true=40∨lookP s.abs (pre++tempB) true=42∨lookP s.abs (pre++tempB) true=0 from lookRes_cases _ _ _ _) with h|h|h|h<;>rw [h]<;>simp<;>split<;>omega)
 clear hae
 go_wp2_with fail
 refine HA.out.mono ?_
 rintro e W ⟨rfl,hww⟩
 obtain rfl:=hww.symm
 by_cases hz:ae=0
 ·subst hz
  have Kd:=hid (show O=if checkA x≠0∧zeroB x=false then (([],checkA x),s.abs) else sweepR (goesP pre x.runs) (listP s.abs pre) [] s.abs from by rw [HO.out,if_neg (by decide)])
  obtain ⟨⟨z0,z1,z2,z3,z4,z5,z6⟩,-,hzl⟩:=verCells Kk.out
  go_upto_region 4 with fail
  obtain ⟨Z,hZ⟩:∃Z,Z=zeroB x:=⟨_,rfl⟩
  have HZ:=hid (show Z=(decide (x.gen=0)&&decide (x.flushed=0)&&decide (x.next=0)&&decide (x.low=0)&&decide (x.clock=0)&&decide (m1=0)&&decide (nx=0)) from by rw [hZ,HM.out.1,HM.out.2];rfl)
  rw [←hZ] at Kd
  clear hZ
  go_cut [9] (fun b wx=>b=.bool Z∧wx=W1)
  case first=>
   by_cases h0:x.gen=0
   ·skip
    have hb0:(x.gen==0)=true:=by simpa using h0
    have H0:=hid h0
    clear h0
    by_cases h1:x.flushed=0
    ·skip
     have hb1:(x.flushed==0)=true:=by simpa using h1
     have H1:=hid h1
     clear h1
     by_cases h2:x.next=0
     ·skip
      have hb2:(x.next==0)=true:=by simpa using h2
      have H2:=hid h2
      clear h2
      by_cases h3:x.low=0
      ·skip
       have hb3:(x.low==0)=true:=by simpa using h3
       have H3:=hid h3
       clear h3
       by_cases h4:x.clock=0
       ·skip
        have hb4:(x.clock==0)=true:=by simpa using h4
        have H4:=hid h4
        clear h4
        by_cases h5:m1=0
        ·skip
         have hb5:((m1:Int)==0)=true:=by simpa using h5
         have H5:=hid h5
         clear h5
         by_cases h6:nx=0
         ·skip
          have hb6:((nx:Int)==0)=true:=by simpa using h6
          have H6:=hid h6
          clear h6
          go_wp2
          go_meet
          exact ⟨by rw [HZ.out,decide_eq_true H0.out,decide_eq_true H1.out,decide_eq_true H2.out,decide_eq_true H3.out,decide_eq_true H4.out,decide_eq_true H5.out,decide_eq_true H6.out];simp,rfl⟩
         ·skip
          have hb6:((nx:Int)==0)=false:=by simpa using h6
          have H6:=hid h6
          clear h6
          go_wp2
          go_meet
          exact ⟨by rw [HZ.out,decide_eq_true H0.out,decide_eq_true H1.out,decide_eq_true H2.out,decide_eq_true H3.out,decide_eq_true H4.out,decide_eq_true H5.out,decide_eq_false H6.out];simp,rfl⟩
        ·skip
         have hb5:((m1:Int)==0)=false:=by simpa using h5
         have H5:=hid h5
         clear h5
         go_wp2
         go_meet
         exact ⟨by rw [HZ.out,decide_eq_true H0.out,decide_eq_true H1.out,decide_eq_true H2.out,decide_eq_true H3.out,decide_eq_true H4.out,decide_eq_false H5.out];simp,rfl⟩
       ·skip
        have hb4:(x.clock==0)=false:=by simpa using h4
        have H4:=hid h4
        clear h4
        go_wp2
        go_meet
        exact ⟨by rw [HZ.out,decide_eq_true H0.out,decide_eq_true H1.out,decide_eq_true H2.out,decide_eq_true H3.out,decide_eq_false H4.out];simp,rfl⟩
      ·skip
       have hb3:(x.low==0)=false:=by simpa using h3
       have H3:=hid h3
       clear h3
       go_wp2
       go_meet
       exact ⟨by rw [HZ.out,decide_eq_true H0.out,decide_eq_true H1.out,decide_eq_true H2.out,decide_eq_false H3.out];simp,rfl⟩
     ·skip
      have hb2:(x.next==0)=false:=by simpa using h2
      have H2:=hid h2
      clear h2
      go_wp2
      go_meet
      exact ⟨by rw [HZ.out,decide_eq_true H0.out,decide_eq_true H1.out,decide_eq_false H2.out];simp,rfl⟩
    ·skip
     have hb1:(x.flushed==0)=false:=by simpa using h1
     have H1:=hid h1
     clear h1
     go_wp2
     go_meet
     exact ⟨by rw [HZ.out,decide_eq_true H0.out,decide_eq_false H1.out];simp,rfl⟩
   ·skip
    have hb0:(x.gen==0)=false:=by simpa using h0
    have H0:=hid h0
    clear h0
    go_wp2
    go_meet
    exact ⟨by rw [HZ.out,decide_eq_false H0.out];simp,rfl⟩
  case rest=>
   obtain ⟨rfl,hww⟩:=hcut
   obtain rfl:=hww.symm
   clear hww HZ
   have Zb:=hid (verCheck_any (HV.out.keep Kh.out) (fun r hr=>⟨(Kt.out r hr).1,(Kt.out r hr).2.1⟩))
   obtain ⟨ck,hck⟩:∃c,c=checkA x:=⟨_,rfl⟩
   rw [←hck] at Zb Kd
   have Zv:=hid (show ck=0∨ck=101 from by rw [hck];unfold checkA;split<;>simp)
   clear hck
   go_wp2_with fail
   refine Zb.out.mono ?_
   rintro e W2 ⟨rfl,hu2⟩
   have Ku:=hid (Kh.out.trans hu2 (fun _ _ e=>e));have Zq:=hid (hu2.get Kk.out (fun e=>e))
   clear hu2 z0 z1 z2 z3 z4 z5 z6 hzl Kk
   go_upto_region 6 with fail
   by_cases hbad:ck≠0∧Z=false
   ·have Ki:=hid (show O=(([],ck),s.abs) from by rw [Kd.out,if_pos hbad])
    obtain ⟨hb1,hb2⟩:=hbad
    subst hb2
    have hne:(ck != 0)=true:=by simpa using hb1
    go_wp2
    go_ret2
    rw [Ki.out]
    exact ⟨_,rfl,Strs.nil _ _,s,Step.of_upd HS.out Ku.out,rfl,fun b e=>by cases e⟩
   ·have Ki:=hid (show O=sweepR (goesP pre x.runs) (listP s.abs pre) [] s.abs from by rw [Kd.out,if_neg hbad])
    go_cut [68] (fun b wx=>b=.bool false∧wx=W2)
    case first=>
     by_cases hc0:ck=0
     ·subst hc0
      go_wp2
      go_meet
      exact ⟨rfl,rfl⟩
     ·have hne:(ck != 0)=true:=by simpa using hc0
      have hZ:Z=true:=(Bool.eq_false_or_eq_true Z).elim id (fun h=>absurd ⟨hc0,h⟩ hbad)
      subst hZ
      go_wp2
      go_meet
      exact ⟨rfl,rfl⟩
    case rest=>
     obtain ⟨rfl,hww⟩:=hcut
     obtain rfl:=hww.symm
     clear hww hbad HO Kd
     have hmm:=@run_makeMap Tryz.prog
     have hum:=(Upd.refl (fun _=>False) W2).alloc (.map #[] 0)
     have Kl:=hid (MapIs.made W2)
     obtain ⟨⟨z0,z1,z2,z3,z4,z5,z6⟩,-,hzl⟩:=verCells Zq.out
     clear z0 z1 z2 z3 z4 z5
     go_wp2
     obtain ⟨m,hm⟩:∃m,m=W2.heap.size:=⟨_,rfl⟩
     rw [←hm] at Kl⊢
     have Zc:=hid hum
     have Kv:=hid (show w.heap.size≤m from by rw [hm];exact Ku.out.size)
     generalize W2.alloc (.map #[] 0)=W3 at Kl Zc⊢
     clear hum hm hmm z6 hzl
     go_loopw [74] (fun iv wr=>∃k:Nat,k≤nx∧iv=.int .i64 k∧MapIs wr m (nameE pre (x.runs.take k) [])∧Upd (fun b=>b=m) W3 wr) (fun iv _=>nx-(intOf iv).toNat)
     case atStart=>exact ⟨0,Nat.zero_le _,rfl,Kl.out,Upd.refl _ _⟩
     case round=>
      clear Kl
      obtain ⟨k,hk,rfl,hmp,hup⟩:=hrel
      have Kw:=hid hmp;have Zd:=hid hup
      have Ke:=hid ((Ku.out.trans Zc.out (fun _ _ e=>e)).trans hup (fun b hb e=>by have:=Kv.out;omega))
      clear hmp hup
      by_cases hlt:k<nx
      ·have hkx:k<x.runs.length:=by have:=HM.out.2;omega
       have hrk:=HR.out.keep Ke.out
       obtain ⟨xa,xc,ex,hx1,hx2,hx3⟩:=hrk
       injection ex with ex1 ex2 ex3
       subst ex1;subst ex3
       clear ex2
       obtain ⟨bx,ox,f1,c1,f2,c2,rfl,hbx,t0,t1,t2,t3,t4,t5,t6,t7,-,-⟩:=hx3 k hkx
       obtain ⟨r,hr⟩:∃r,r=x.runs[k]:=⟨_,rfl⟩
       rw [←hr] at t0 t1 t2 t3 t4 t5 t6 t7
       have Ze:=hid (nameE_step (pre:=pre) hkx)
       rw [←hr] at Ze
       obtain ⟨l1,hl1⟩:∃l,l=r.first.length:=⟨_,rfl⟩
       obtain ⟨l2,hl2⟩:∃l,l=r.last.length:=⟨_,rfl⟩
       rw [←hl1] at t6
       rw [←hl2] at t7
       have hnum:r.num≤9223372036854775807:=by rw [hr];exact (Kt.out _ (List.getElem_mem hkx)).2.2
       have Zf:=hid hnum
       have hu5:=(Upd.refl (fun _=>False) wr).alloc (.cells #[.int .i64 r.num,.int .i64 r.count,.int .i64 r.index,.int .i64 r.low,.int .i64 r.clock,.int .i64 r.bytes,.slice f1 l1 c1,.slice f2 l2 c2] 48)
       have hr5:=heap_alloc_new wr (.cells #[.int .i64 r.num,.int .i64 r.count,.int .i64 r.index,.int .i64 r.low,.int .i64 r.clock,.int .i64 r.bytes,.slice f1 l1 c1,.slice f2 l2 c2] 48)
       have hxc:(k:Int)<(nx:Int):=by omega
       have hxd:k<d2:=by have:=HM.out.2;omega
       clear hx3 hr hkx hx1 hx2 hl1 hl2 hnum
       go_upto_region 12 with fail
       obtain ⟨pb,hpb⟩:∃p,p=wr.heap.size:=⟨_,rfl⟩
       rw [←hpb] at hr5⊢
       have Km:=hid hu5;have Zg:=hid hr5
       generalize wr.alloc (.cells #[.int .i64 r.num,.int .i64 r.count,.int .i64 r.index,.int .i64 r.low,.int .i64 r.clock,.int .i64 r.bytes,.slice f1 l1 c1,.slice f2 l2 c2] 48)=W5 at Km Zg⊢
       clear hu5 hr5 hpb t0 t1 t2 t3 t4 t5 t6 t7 hbx
       obtain ⟨⟨y0,y1,y2,y3,y4,y5,y6,y7⟩,-,-,hpl⟩:=metaCells Zg.out
       clear y1 y2 y3 y4 y5 y6 y7
       have Kn:=hid (runName_any W5 pre r.num HP.out Zf.out (HT.out.keep (Ke.out.trans Km.out (fun _ _ e=>e))))
       go_wp2_with fail
       refine Kn.out.mono ?_
       rintro e W6 ⟨rfl,hu6⟩
       obtain ⟨W7,hrun,hmp7,hu7⟩:=run_mapUpdate_str (P:=Tryz.prog) Tryz.underlying161 Tryz.underlying9 (Kw.out.upd (Km.out.trans hu6 (fun _ _ e=>e)) (fun e=>e)) (runName pre r.num) (.bool true)
       rw [←Ze.out] at hmp7
       have Kr:=hid (And.intro hmp7 ((Zd.out.trans ((Km.out.trans hu6 (fun _ _ e=>e)).mono (T:=fun b=>b=m) (fun _ _ e=>e.elim)) (fun _ _ e=>e)).trans hu7 (fun _ _ e=>e)))
       clear hmp7 hu6 hu7 y0 hpl Kn
       go_wp2
       go_roundw
       case rel=>exact ⟨k+1,by omega,by go_num,Kr.out.1,Kr.out.2⟩
       case measure=>simp [intOf];omega
      ·obtain rfl:k=nx:=by omega
       have hmp:MapIs wr m (nameE pre x.runs []):=by
        have h:=Kw.out
        rw [HM.out.2,List.take_length] at h
        exact h
       have Kf:=hid hmp
       have Ka:=hid (HS.out.upd Ke.out (fun _ _ e=>e))
       have Zh:=hid (list_any Ka.out pre)
       clear hmp Kw
       go_wp2_with fail
       refine Zh.out.mono ?_
       rintro e W8 ⟨lv,nl,rfl,hown8,hu8⟩
       rw [list_p] at hown8
       have hlen:nl=(listP s.abs pre).length:=by have:=hown8.1;simpa using this.symm
       subst hlen
       have hnb:(listP s.abs pre).length≤256:=by
        unfold listP
        refine Nat.le_trans (List.length_filter_le _ _) ?_
        rw [(sortNames_perm _).length_eq]
        have:=HS.out.count
        simpa [DS.abs] using this
       have hgood:∀f∈listP s.abs pre,f.size≤64:=by
        intro f hf
        unfold listP at hf
        have h1:=(sortNames_perm _).mem_iff.1 (List.mem_filter.1 hf).1
        obtain ⟨fa,hfa,rfl⟩:=List.mem_map.1 h1
        obtain ⟨r,hr,rfl⟩:=List.mem_map.1 hfa
        have h2:=(HS.out.files r hr).name
        simp only [nameOk,Bool.and_eq_true,decide_eq_true_eq] at h2
        have h3:=h2.1.2
        simpa [FRec.abs] using h3
       obtain ⟨LL,hLL⟩:∃L,L=listP s.abs pre:=⟨_,rfl⟩
       rw [←hLL] at hown8 Ki hnb hgood
       clear hLL
       have hls:Strs w W8 lv LL:=⟨SRow.of_owns hown8,fun b e=>Nat.le_trans Ke.out.size (hown8.lt b e).1⟩
       obtain ⟨E,hE⟩:∃E,E=nameE pre x.runs []:=⟨_,rfl⟩
       rw [←hE] at Kf
       have Zr:=hid hE
       have hmlt:=Kf.out.lt
       have Kx:=hid hgood
       have hsw:SwS w W8 s s m E lv (.slice none 0 0) LL []:=⟨Step.of_upd HS.out (Ke.out.trans hu8 (fun _ _ e=>e)),Kf.out.upd hu8 (fun e=>e),hls,Strs.nil _ _,⟨Kv.out,fun e=>by have:=HS.out.lt m e;have:=Kv.out;omega⟩,fun b e=>⟨fun e2=>by have h1:=HS.out.lt b e2;have h2:=hls.2 b e;omega,fun e2=>by have h1:=(hown8.lt b e).1;omega⟩,fun b e=>(by cases e),H2.out,HT.out.keep (Ke.out.trans hu8 (fun _ _ e=>e)),HT.out.lt⟩
       obtain ⟨la,lc,rfl,hlc1,hlc2⟩:=hls.shape
       obtain ⟨NL,hNL⟩:∃n,n=LL.length:=⟨_,rfl⟩
       rw [←hNL] at hsw hlc1 hnb⊢
       have Ks:=hid hsw;have Zi:=hid hNL
       have hp4:¬(9223372036854775807<pre.size+4):=by omega
       have hp12:¬(9223372036854775807<pre.size+12):=by omega
       clear hown8 hu8 hls hE hmlt hgood hsw hNL Kf Zh Zd Ke Ka hmx
       obtain ⟨wo,rfl⟩:∃wo,wo=wr:=⟨_,rfl⟩
       go_wp2
       go_loopw [14,88] (fun gv iv wr=>∃k:Nat,k≤NL∧iv=.int .i64 k∧∃(ga:Option Addr) (gn gc:Nat) (gone:List ByteArray) (s':DS),gv=.slice ga gn gc∧gn=gone.length∧SwS w wr s s' m E (.slice la NL lc) (.slice ga gn gc) LL gone∧gn≤k∧O=sweepR (goesP pre x.runs) (LL.drop k) gone s'.abs) (fun _ iv _=>NL-(intOf iv).toNat)
       case atStart=>exact ⟨0,Nat.zero_le _,rfl,none,0,0,[],s,rfl,rfl,Ks.out,Nat.zero_le _,by rw [List.drop_zero];exact Ki.out⟩
       case round=>
        clear Ks Ki
        obtain ⟨k,hk,rfl,ga,gn,gc,gone,s',rfl,hgn,hsw,hgk,hO⟩:=hrel
        have Ka:=hid hsw;have Ko:=hid hgn;have HO:=hid hO
        clear hgn hO
        by_cases hlt:k<NL
        ·have hkl:k<LL.length:=by have:=Zi.out;omega
         obtain ⟨g,c,eg,hgl,hcell⟩:=hsw.lr.at hkl
         injection eg with eg1 eg2 eg3
         subst eg1;subst eg3
         clear eg2
         obtain ⟨f,hf⟩:∃f,f=LL[k]:=⟨_,rfl⟩
         rw [←hf] at hcell
         have Zj:=hid (show LL.drop k=f :: LL.drop (k+1) from by rw [hf];exact List.drop_eq_getElem_cons hkl)
         have Zs:=hid (show f.size≤64 from Kx.out f (by rw [hf];exact List.getElem_mem hkl))
         have Zk:=hid (trim_any f (pre++runB))
         have Ky:=hid (number_any (trimP f (pre++runB)) (Nat.le_trans (trimP_size _ _) (by have:=Zs.out;omega)))
         obtain ⟨n,hn⟩:∃n,n=numOf pre f:=⟨_,rfl⟩
         have Zl:=hid (show 0≤n∧n≤9223372036854775807 from by rw [hn];exact numP_bounds _ 0 (by omega) (by omega))
         rw [show numP (trimP f (pre++runB)).data.toList 0=n from by rw [hn];rfl] at Ky
         have Kb:=hid (show isRunP pre f=(decide (1≤n)&&decide (runName pre n=f)) from by rw [hn];rfl)
         have hki:(k:Int)<(NL:Int):=by omega
         clear hsw hf hn hkl
         go_wp2_with fail
         refine (Zk.out _).mono ?_
         rintro e W ⟨rfl,hww⟩
         obtain rfl:=hww.symm
         go_wp2_with fail
         refine (Ky.out _).mono ?_
         rintro e W ⟨rfl,hww⟩
         obtain rfl:=hww.symm
         go_upto_region 19 with fail
         go_cut [18,88] from 88 to 130 (fun bv iv wx=>bv=.bool (isRunP pre f)∧iv=.int .i64 k∧Upd (fun _=>False) wr wx)
         case first=>
          have Kn:=hid (runName_any wr pre n hp Zl.out.2 Ka.out.two.2.1)
          by_cases h1:1≤n
          ·have hq:=beq_toList (runName pre n) f
           go_wp2_with fail
           refine Kn.out.mono ?_
           rintro e W6 ⟨rfl,hu6⟩
           have Zt:=hid hu6
           clear hu6
           go_wp2
           go_meet
           exact ⟨by rw [Kb.out,decide_eq_true h1];rfl,rfl,Zt.out⟩
          ·go_wp2
           go_meet
           exact ⟨by rw [Kb.out,decide_eq_false (by omega:¬1≤n)];rfl,rfl,Upd.refl _ _⟩
         case rest=>
          obtain ⟨rfl,rfl,hu⟩:=hcut
          have Kc:=hid (Ka.out.quiet hu)
          clear hu Kb Zl hcell hgl Zk Ky
          obtain ⟨rn,hrn⟩:∃b,b=isRunP pre f:=⟨_,rfl⟩
          rw [←hrn]
          have HG:=hid (show goesP pre x.runs f=(decide (f=pre++tempB) || (rn && !namedB pre x.runs f)) from by rw [hrn];rfl)
          clear hrn
          go_upto_region 20 with fail
          go_cut [118,88] from 88 to 130 (fun bv iv wx=>bv=.bool (!goesP pre x.runs f)∧iv=.int .i64 k∧wx=wc)
          case first=>
           have hlk:=run_lookup_str (P:=Tryz.prog) Tryz.underlying161 Tryz.underlying9 (z:=.bool false) (fun _=>by kernel_rfl) Kc.out.mp f
           rw [Zr.out,nameE_get] at hlk
           have hq:=beq_toList f (pre++tempB)
           by_cases ht:f=pre++tempB
           ·rw [decide_eq_true ht] at hq
            have Kp:=hid ht
            clear ht
            go_wp2
            go_meet
            exact ⟨by rw [HG.out,decide_eq_true Kp.out];rfl,rfl,rfl⟩
           ·rw [decide_eq_false ht] at hq
            have Kp:=hid ht
            clear ht
            cases rn
            ·go_wp2
             go_meet
             exact ⟨by rw [HG.out,decide_eq_false Kp.out];rfl,rfl,rfl⟩
            ·go_wp2
             go_meet
             exact ⟨by rw [HG.out,decide_eq_false Kp.out];simp,rfl,rfl⟩
          case rest=>
           obtain ⟨rfl,rfl,hww⟩:=hcut
           obtain rfl:=hww.symm
           clear hww HG
           obtain ⟨G,hG⟩:∃b,b=goesP pre x.runs f:=⟨_,rfl⟩
           rw [←hG]
           have Zm:=hid hG.symm
           clear hG
           cases G
           ·have Kj:=hid (show O=sweepR (goesP pre x.runs) (LL.drop (k+1)) gone s'.abs from by rw [HO.out,Zj.out,sweepR_cons,if_pos Zm.out])
            go_wp2
            go_roundw
            case rel=>exact ⟨k+1,by omega,by go_num,ga,gn,gc,gone,s',rfl,Ko.out,Kc.out,by omega,Kj.out⟩
            case measure=>simp [intOf];omega
           ·have Kq:=hid (delete_p Kc.out.st.ins f)
            rw [Kc.out.st.p] at Kq
            obtain ⟨D,hD⟩:∃D,D=deleteP s'.abs f:=⟨_,rfl⟩
            rw [←hD] at Kq
            have Kj:=hid (show O=if D.1≠0 then ((gone,D.1),D.2) else sweepR (goesP pre x.runs) (LL.drop (k+1)) (gone ++ [f]) D.2 from by rw [HO.out,Zj.out,hD,sweepR_cons,if_neg (by rw [Zm.out];decide)])
            obtain ⟨de,da⟩:=D
            simp only at Kq Kj
            clear hD
            go_wp2_with fail
            refine Kq.out.mono ?_
            rintro e W9 ⟨rfl,s9,hst9,habs9⟩
            have Kg:=hid (Kc.out.del hst9);have Zn:=hid habs9
            clear hst9 habs9
            by_cases hde:de=0
            ·subst hde
             have Zo:=hid (show O=sweepR (goesP pre x.runs) (LL.drop (k+1)) (gone ++ [f]) s9.abs from by rw [Kj.out,if_neg (by decide),Zn.out])
             obtain ⟨ga',gc',W10,hrun,hsw10⟩:=Kg.out.push Ko.out f (by have:=Ko.out;omega)
             have Kb:=hid hrun;have Kz:=hid hsw10
             clear hrun hsw10
             go_wp2_with (at_builtin;refine wpList_append_run rfl _ _ _ rfl rfl rfl Kb.out ?_)
             go_roundw
             case rel=>exact ⟨k+1,by omega,by go_num,ga',gn+1,gc',gone ++ [f],s9,rfl,by rw [List.length_append,←Ko.out];rfl,Kz.out,by omega,Zo.out⟩
             case measure=>simp [intOf];omega
            ·have hne:(de != 0)=true:=by simpa using hde
             have HF:=hid (show O=((gone,de),s9.abs) from by rw [Kj.out,if_pos hde,Zn.out])
             go_wp2
             go_ret2
             rw [HF.out]
             exact ⟨_,rfl,Kg.out.gr,s9,Kg.out.st,rfl,fun b e=>(Kg.out.gn b e).1⟩
        ·obtain rfl:k=NL:=by omega
         have HF:=hid (show O=((gone,0),s'.abs) from by rw [HO.out,List.drop_eq_nil_of_le (by have:=Zi.out;omega)];rfl)
         clear hsw
         go_wp2
         go_ret2
         rw [HF.out]
         exact ⟨_,rfl,Ka.out.gr,s',Ka.out.st,rfl,fun b e=>(Ka.out.gn b e).1⟩
 ·have hne:(ae != 0)=true:=by simpa using hz
  have Kd:=hid (show O=(([],ae),s.abs) from by rw [HO.out,if_pos hz])
  go_wp2
  go_ret2
  rw [Kd.out]
  exact ⟨_,rfl,Strs.nil _ _,s,Za.out,rfl,fun b e=>by cases e⟩
section
variable {a:DiskA} {N:List ByteArray} {n:ByteArray}
end
theorem sort_strict {N:List ByteArray} (h:N.Nodup):(sortNames N).Pairwise (fun a b=>a.data.toList<b.data.toList):=by
 have h1:=sortNames_sorted N
 have h2:(sortNames N).Nodup:=(sortNames_perm N).nodup_iff.2 h
 refine (h1.and h2).imp ?_
 rintro a b ⟨h3,h4⟩
 simp only [leB,decide_eq_true_eq] at h3
 by_cases hlt:a.data.toList<b.data.toList
 ·exact hlt
 ·have h5:b.data.toList≤a.data.toList:=hlt
  exact absurd (WideShapes.bytes_inj (List.le_antisymm h3 h5)) h4
def StrsAt (w:World) (v:Value) (l:List ByteArray):Prop:=
 ∃ao cap,v=.slice ao l.length cap∧l.length≤cap∧cap≤9223372036854775807∧∀k (hk:k<l.length),∃b o,ao=some ⟨b,o,none⟩∧b<w.heap.size∧w.cell? ⟨b,o+k,none⟩=some (.string l[k])
theorem StrsAt.keep {w w':World} {v:Value} {l:List ByteArray} (h:StrsAt w v l) (hu:Upd (fun _=>False) w w'):StrsAt w' v l:=by
 obtain ⟨ao,cap,e,h1,h2,h3⟩:=h
 refine ⟨ao,cap,e,h1,h2,fun k hk=>?_⟩
 obtain ⟨b,o,ha,hb,hc⟩:=h3 k hk
 exact ⟨b,o,ha,Nat.lt_of_lt_of_le hb hu.size,hu.cell hb hc⟩
section
variable {w W W':World} {p:Nat} {s s2:DS} {tv:Value} {T N N':List ByteArray} {R:List (Nat×Obj)}
end
theorem StrsAt.get {w W:World} {ao:Option Addr} {n c k:Nat} {xs:List ByteArray} (h:StrsAt w (.slice ao n c) xs) (hu:Upd (fun _=>False) w W) (hk:k<xs.length):∃g o,ao=some ⟨g,o,none⟩∧g<W.heap.size∧W.cell? ⟨g,o+k,none⟩=some (.string xs[k]):=by
 obtain ⟨ao',cap,e,-,-,h3⟩:=h.keep hu
 injection e with e1 _ _
 subst e1
 exact h3 k hk
end Go.Proofs.YtgaidmohdhaonaaGreatDoor
