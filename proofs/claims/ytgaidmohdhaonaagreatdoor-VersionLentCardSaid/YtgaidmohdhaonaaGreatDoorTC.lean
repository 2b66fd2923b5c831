/-
  Package strataref10, walked: Sweep.
-/
import Derived.Test.YtgaidmohdhaonaaGreatDoorTB
import Derived.Test.YtgaidmohdhaonaaGreatDoorSU
set_option linter.unusedVariables false
set_option linter.unusedSimpArgs false
set_option linter.unnecessarySimpa false
set_option linter.unusedSectionVars false
set_option maxRecDepth 100000
set_option maxHeartbeats 12800000
namespace Go.Proofs.YtgaidmohdhaonaaGreatDoor
open Go Go.RowKit
structure SwT (w W:World) (r rk:RS) (ak:DiskA) (p5:Nat) (cs:Array Value) (lv gv:Value) (L gone:List ByteArray):Prop where
 go:RGo w W r rk ak
 lr:Strs w W lv L
 gr:Strs w W gv gone
 ln:∀b,lv.ownBlock=some b→¬rk.own b
 gn:∀b,gv.ownBlock=some b→¬rk.own b∧¬lv.ownBlock=some b
 box:W.heap[p5]? = some (.cells cs 25 (0,0))∧¬rk.own p5∧¬gv.ownBlock=some p5
section
variable {w W W':World} {r rk r2:RS} {ak a2:DiskA} {p5:Nat} {cs:Array Value} {lv gv:Value} {L gone:List ByteArray}
theorem SwT.del (h:SwT w W r rk ak p5 cs lv gv L gone) (hg:RGo W W' rk r2 a2):SwT w W' r r2 a2 p5 cs lv gv L gone:=
 ⟨h.go.trans hg,h.lr.upd hg.st.upd (fun b e=>h.ln b e),h.gr.upd hg.st.upd (fun b e=>(h.gn b e).1),fun b e=>hg.out (h.lr.lt b e) (h.ln b e),fun b e=>⟨hg.out (h.gr.lt b e) (h.gn b e).1,(h.gn b e).2⟩,hg.st.upd.get h.box.1 h.box.2.1,hg.out (lt_of_heap h.box.1) h.box.2.1,h.box.2.2⟩
theorem SwT.quiet (h:SwT w W r rk ak p5 cs lv gv L gone) (hu:Upd (fun _=>False) W W'):SwT w W' r rk ak p5 cs lv gv L gone:=h.del (RGo.of_upd h.go.ra hu)
theorem SwT.push {ao:Option Addr} {n c:Nat} (h:SwT w W r rk ak p5 cs lv (.slice ao n c) L gone) (hn:n=gone.length) (f:ByteArray) (hl:gone.length≤1000000) :
  ∃ao' c' W',(Builtin.append_ #[73,73] 73 #[.slice ao n c,.slice (some ⟨W.heap.size,0,none⟩) 1 1]).run Tryz.prog (W.alloc (.cells #[.string f] 9))=.ok (.slice ao' (n+1) c') W'∧SwT w W' r rk ak p5 cs lv (.slice ao' (n+1) c') L (gone ++ [f]):=by
 obtain ⟨ao',c',W',hrun,hs,hu,ho⟩:=h.gr.push hn h.go.st.upd.size f hl
 have hg2:RGo w W' r rk ak:=h.go.then_upd hu (fun k e=>⟨h.gr.2 k e,(h.gn k e).1⟩)
 refine ⟨ao',c',W',hrun,hg2,h.lr.upd hu (fun b e e2=>(h.gn b e2).2 e),hs,h.ln,fun b e=>?_,hu.get h.box.1 h.box.2.2,h.box.2.1,fun e=>?_⟩
 ·rcases ho b e with e|e
  ·exact h.gn b e
  ·exact ⟨fun e2=>by have:=h.go.st.ins.lt e2;omega,fun e2=>by have:=h.lr.lt b e2;omega⟩
 ·rcases ho _ e with e|e
  ·exact h.box.2.2 e
  ·have:=lt_of_heap h.box.1;omega
end
theorem namedB_step {pre f:ByteArray} {l:List MetaA} {k:Nat} (hk:k<l.length):namedB pre (l.take (k+1)) f=(namedB pre (l.take k) f || decide (runName pre l[k].num=f)):=by
 unfold namedB
 rw [List.take_succ_eq_append_getElem hk,List.any_append]
 simp
theorem refSweep10_any {w:World} {r:RS} {a:DiskA} {v:Value} {x:VerA} (hr:RA w r a) (pre:ByteArray) (hp:pre.size≤140737488355328) (hvk:∀W',Upd r.own w W'→VerAt W' v x) (hin:∀r∈x.runs,r.first.length≤140737488351232∧r.last.length≤140737488351232∧r.num≤9223372036854775807) (hnm:∀f∈a.files,f.name.size≤64) :
  Calls Tryz.prog 102 #[.pointer (some ⟨r.p,0,none⟩),.string pre,v] w fun e w'=>∃gv,e=.returned (.tuple #[gv,.int .i64 (sweepP a pre x).1.2])∧Strs w w' gv (sweepP a pre x).1.1∧∃r2,RGo w w' r r2 (sweepP a pre x).2∧∀b,gv.ownBlock=some b→¬r2.own b:=by
 obtain ⟨O,hO⟩:∃O,O=sweepP a pre x:=⟨_,rfl⟩
 rw [←hO]
 unfold sweepP at hO
 have hv:=hvk w (Upd.refl _ _)
 have HO:=hid hO;have Kc:=hid hr;have Ky:=hid hvk;have Kn:=hid hv;have Ko:=hid hin;have HP:=hid hp;have Zm:=hid hnm
 obtain ⟨s1,d1,s2,d2,rfl,-,-⟩:=hv
 obtain ⟨m1,hm1⟩:∃m,m=x.state.length:=⟨_,rfl⟩
 obtain ⟨nx,hnx⟩:∃m,m=x.runs.length:=⟨_,rfl⟩
 rw [←hm1,←hnx] at Kn Ky
 rw [←hm1,←hnx]
 have HM:=hid (And.intro hm1 hnx)
 obtain ⟨rp,hrp⟩:∃p,p=r.p:=⟨_,rfl⟩
 have Kp:=hid hrp
 rw [←hrp]
 have Kj:=hid ((Upd.refl (fun _=>False) w).alloc (.cells #[.int .i64 x.gen,.int .i64 x.flushed,.int .i64 x.next,.int .i64 x.low,.int .i64 x.clock,.slice s1 m1 d1,.slice s2 nx d2] 25))
 have Kg:=hid (heap_alloc_new w (.cells #[.int .i64 x.gen,.int .i64 x.flushed,.int .i64 x.next,.int .i64 x.low,.int .i64 x.clock,.slice s1 m1 d1,.slice s2 nx d2] 25))
 have hp12:¬(9223372036854775807<pre.size+12):=by omega
 clear hO hr hvk hin hm1 hnx hrp hnm
 go_enter Tryz.func102,Tryz.ntmps102
 go_upto_region 1 with fail
 obtain ⟨p5,hp5⟩:∃p,p=w.heap.size:=⟨_,rfl⟩
 rw [←hp5] at Kg⊢
 have Zn:=hid (show ¬r.own p5 from fun e=>by have:=Kc.out.ins.lt e;omega)
 generalize w.alloc (.cells #[.int .i64 x.gen,.int .i64 x.flushed,.int .i64 x.next,.int .i64 x.low,.int .i64 x.clock,.slice s1 m1 d1,.slice s2 nx d2] 25)=W1 at Kj Kg⊢
 clear hp5
 have Kz:=hid (RGo.of_upd Kc.out Kj.out)
 have HA:=hid (Kz.out.ra.refused pre hp)
 rw [←Kp.out] at HA
 obtain ⟨ae,hae⟩:∃e,e=askedP a pre:=⟨_,rfl⟩
 rw [←hae] at HA HO
 clear hae
 go_wp2_with fail
 refine HA.out.mono ?_
 rintro e W ⟨rfl,hww⟩
 obtain rfl:=hww.symm
 by_cases hz:ae=0
 case neg=>
  have Ke:=hid (show O=(([],ae),a) from by rw [HO.out,if_pos hz])
  have hne:(ae != 0)=true:=by simpa using hz
  clear hz
  go_wp2
  go_ret2
  rw [Ke.out]
  exact ⟨_,rfl,Strs.nil _ _,r,Kz.out,fun b e=>by cases e⟩
 subst hz
 have Ke:=hid (show O=if checkA x≠0∧zeroB x=false then (([],checkA x),a) else sweepR (goesP pre x.runs) (listP a pre) [] a from by rw [HO.out,if_neg (by decide)])
 have Kq:=hid (refZero_any (Kn.out.keep Kj.out))
 obtain ⟨Z,hZ⟩:∃Z,Z=zeroB x:=⟨_,rfl⟩
 rw [←hZ] at Ke Kq
 obtain ⟨⟨z0,z1,z2,z3,z4,z5,z6⟩,-,hzl⟩:=verCells Kg.out
 clear hZ HO
 go_wp2_with fail
 refine Kq.out.mono ?_
 rintro e W2 ⟨rfl,hu2⟩
 have Za:=hid (Kj.out.trans hu2 (fun _ _ e=>e));have Kr:=hid (hu2.get Kg.out (fun e=>e))
 clear hu2 z0 z1 z2 z3 z4 z5 z6 hzl Kg Kq
 have Ks:=hid (refCheck10_any (Kn.out.keep Za.out) (fun r hr=>⟨(Ko.out r hr).1,(Ko.out r hr).2.1⟩))
 obtain ⟨⟨z0,z1,z2,z3,z4,z5,z6⟩,-,hzl⟩:=verCells Kr.out
 obtain ⟨ck,hck⟩:∃c,c=checkA x:=⟨_,rfl⟩
 rw [←hck] at Ks Ke
 clear hck
 go_wp2_with fail
 refine Ks.out.mono ?_
 rintro e W3 ⟨rfl,hu3⟩
 have Zb:=hid (Za.out.trans hu3 (fun _ _ e=>e));have Zc:=hid (hu3.get Kr.out (fun e=>e))
 clear hu3 z0 z1 z2 z3 z4 z5 z6 hzl Kr Ks
 have Kk:=hid (RGo.of_upd Kc.out Zb.out)
 by_cases hbad:ck≠0∧Z=false
 ·have Kh:=hid (show O=(([],ck),a) from by rw [Ke.out,if_pos hbad])
  obtain ⟨hb1,hb2⟩:=hbad
  subst hb2
  have hne:(ck != 0)=true:=by simpa using hb1
  clear hb1
  go_wp2
  go_ret2
  rw [Kh.out]
  exact ⟨_,rfl,Strs.nil _ _,r,Kk.out,fun b e=>by cases e⟩
 have Kh:=hid (show O=sweepR (goesP pre x.runs) (listP a pre) [] a from by rw [Ke.out,if_neg hbad])
 go_upto_region 6 with fail
 go_cut [31] (fun b wx=>b=.bool false∧wx=W3)
 case first=>
  by_cases hc0:ck=0
  ·subst hc0
   go_wp2
   go_meet
   exact ⟨rfl,rfl⟩
  ·have hne:(ck != 0)=true:=by simpa using hc0
   have hZ:Z=true:=(Bool.eq_false_or_eq_true Z).elim id (fun h=>absurd ⟨hc0,h⟩ hbad)
   subst hZ
   clear hc0 hbad
   go_wp2
   go_meet
   exact ⟨rfl,rfl⟩
 case rest=>
  obtain ⟨rfl,hww⟩:=hcut
  obtain rfl:=hww.symm
  clear hww hbad Ke
  have hls:=refList_any Kk.out.ra.ins pre
  rw [listR_p Kc.out.so Kc.out.nd,listP_n Kc.out.al Kc.out.nd] at hls
  rw [←Kp.out] at hls
  have Zd:=hid hls
  clear hls
  go_wp2_with fail
  refine Zd.out.mono ?_
  rintro e W4 ⟨lv,nl,rfl,hown4,hu4⟩
  have hlen:nl=(listP a pre).length:=by have:=hown4.1;simpa using this.symm
  subst hlen
  have hnb:(listP a pre).length≤256:=by
   unfold listP
   refine Nat.le_trans (List.length_filter_le _ _) ?_
   rw [(sortNames_perm _).length_eq]
   have h1:=Kc.out.al.files.length_eq
   have h2:=Kc.out.ins.count
   simp only [RS.abs,List.length_map] at h1⊢
   omega
  have hgood:∀f∈listP a pre,f.size≤64:=by
   intro f hf
   unfold listP at hf
   have h1:=(sortNames_perm _).mem_iff.1 (List.mem_filter.1 hf).1
   obtain ⟨fa,hfa,rfl⟩:=List.mem_map.1 h1
   exact Zm.out fa hfa
  obtain ⟨LL,hLL⟩:∃L,L=listP a pre:=⟨_,rfl⟩
  rw [←hLL] at hown4 Kh hnb hgood
  clear hLL
  have Kt:=hid hgood
  have Zo:=hid (Kk.out.quiet hu4)
  have hls:Strs w W4 lv LL:=⟨SRow.of_owns hown4,fun b e=>Nat.le_trans Zb.out.size (hown4.lt b e).1⟩
  have Kb:=hid (show SwT w W4 r r a p5 _ lv (.slice none 0 0) LL [] from ⟨Zo.out,hls,Strs.nil _ _,fun b e e2=>by have h1:=(hown4.lt b e).1;have h2:=Kk.out.st.ins.lt e2;omega,fun b e=>(by cases e),hu4.get Zc.out (fun e=>e),Zn.out,fun e=>(by cases e)⟩)
  obtain ⟨la,lc,rfl,hlc1,hlc2⟩:=hls.shape
  obtain ⟨NL,hNL⟩:∃n,n=LL.length:=⟨_,rfl⟩
  rw [←hNL] at Kb hlc1 hnb⊢
  have Ze:=hid hNL
  clear hown4 hu4 hls hgood hNL Zc Zd
  go_wp2
  go_loopw [10,12] (fun gv iv wr=>∃k:Nat,k≤NL∧iv=.int .i64 k∧∃(ga:Option Addr) (gn gc:Nat) (gone:List ByteArray) (rk:RS) (ak:DiskA),gv=.slice ga gn gc∧gn=gone.length∧SwT w wr r rk ak p5 #[.int .i64 x.gen,.int .i64 x.flushed,.int .i64 x.next,.int .i64 x.low,.int .i64 x.clock,.slice s1 m1 d1,.slice s2 nx d2] (.slice la NL lc) (.slice ga gn gc) LL gone∧gn≤k∧O=sweepR (goesP pre x.runs) (LL.drop k) gone ak) (fun _ iv _=>NL-(intOf iv).toNat)
  case atStart=>exact ⟨0,Nat.zero_le _,rfl,none,0,0,[],r,a,rfl,rfl,Kb.out,Nat.zero_le _,by rw [List.drop_zero];exact Kh.out⟩
  case round=>
   clear Kb Kh
   obtain ⟨k,hk,rfl,ga,gn,gc,gone,rk,ak,rfl,hgn,hsw,hgk,hO⟩:=hrel
   have Kb:=hid hsw;have Kl:=hid hgn;have HO:=hid hO
   clear hgn hO
   by_cases hlt:k<NL
   ·have hkl:k<LL.length:=by have:=Ze.out;omega
    obtain ⟨g,c,eg,hgl,hcell⟩:=hsw.lr.at hkl
    injection eg with eg1 eg2 eg3
    subst eg1;subst eg3
    clear eg2
    obtain ⟨f,hf⟩:∃f,f=LL[k]:=⟨_,rfl⟩
    rw [←hf] at hcell
    have Zf:=hid (show LL.drop k=f :: LL.drop (k+1) from by rw [hf];exact List.drop_eq_getElem_cons hkl)
    have hfs:f.size≤64:=Kt.out f (by rw [hf];exact List.getElem_mem hkl)
    have Zg:=hid (fun W=>refNames_any pre f HP.out (by omega) W)
    have hki:(k:Int)<(NL:Int):=by omega
    have Zp:=hid (show ∃h:k<LL.length,f=LL[k] from ⟨hkl,hf⟩)
    have Ka:=hid (And.intro hgl hcell)
    obtain ⟨G0,hG0⟩:∃b,b=(decide (f=pre++tempB) || isRunP pre f):=⟨_,rfl⟩
    have Ku:=hid hG0
    obtain ⟨wo,hwo⟩:∃q,q=wr:=⟨_,rfl⟩
    rw [←hwo] at Kb Ka hcell⊢
    clear hsw hf hkl hfs hG0 hgl hwo
    go_upto_region 13 with fail
    go_cut [13] from 36 to 95 (fun bv wx=>bv=.bool G0∧wx=wo)
    case first=>
     have hq:=beq_toList f (pre++tempB)
     by_cases ht:f=pre++tempB
     ·rw [decide_eq_true ht] at hq
      have HT:=hid (show G0=true from by rw [Ku.out,decide_eq_true ht];rfl)
      clear ht
      go_wp2
      go_meet
      exact ⟨by rw [HT.out],rfl⟩
     ·rw [decide_eq_false ht] at hq
      have HT:=hid (show G0=isRunP pre f from by rw [Ku.out,decide_eq_false ht];rfl)
      clear ht
      go_wp2_with fail
      refine (Zg.out _).mono ?_
      rintro e W ⟨rfl,hww⟩
      obtain rfl:=hww.symm
      go_wp2
      go_meet
      exact ⟨by rw [HT.out],rfl⟩
    case rest=>
     obtain ⟨rfl,hww⟩:=hcut
     obtain rfl:=hww.symm
     clear hww Zg
     have Zh:=hid (show RunsAt wo (.slice s2 nx d2) x.runs from by
      obtain ⟨t1,e1,t2,e2,e,-,h2⟩:=Ky.out wo Kb.out.go.st.upd
      injection e with e
      have e:=congrArg Array.toList e
      simp only [List.cons.injEq,and_true,Value.slice.injEq,true_and] at e
      rw [e.2.1,HM.out.2,e.2.2.2]
      exact h2)
     have hnxb:nx≤9223372036854775807:=by
      obtain ⟨xa,xc,-,hx1,hx2,-⟩:=Zh.out
      have:=HM.out.2
      omega
     go_wp2
     go_loopw [13,14] (fun bv jv wq=>∃j:Nat,j≤nx∧jv=.int .i64 j∧bv=.bool (G0 && !namedB pre (x.runs.take j) f)∧Upd (fun _=>False) wo wq) (fun _ jv _=>nx-(intOf jv).toNat)
     case atStart=>exact ⟨0,Nat.zero_le _,rfl,by rw [List.take_zero];simp [namedB],Upd.refl _ _⟩
     case round=>
      obtain ⟨j,hj,rfl,rfl,hup⟩:=hrel
      have Zq:=hid hup
      have Zr:=hid (hup.get Kb.out.box.1 (fun e=>e))
      obtain ⟨⟨z0,z1,z2,z3,z4,z5,z6⟩,-,hzl⟩:=verCells Zr.out
      clear z0 z1 z2 z3 z4 z5
      by_cases hjn:j<nx
      ·have hjx:j<x.runs.length:=by have:=HM.out.2;omega
       obtain ⟨xa,xc,ex,hx1,hx2,hx3⟩:=Zh.out.keep hup
       injection ex with ex1 ex2 ex3
       subst ex1;subst ex3
       clear ex2
       obtain ⟨bx,ox,f1,c1,f2,c2,rfl,hbx,t0,-,-,-,-,-,-,-,-,-⟩:=hx3 j hjx
       obtain ⟨num,hnum⟩:∃n,n=x.runs[j].num:=⟨_,rfl⟩
       rw [←hnum] at t0
       have Kv:=hid (namedB_step (pre:=pre) (f:=f) hjx)
       rw [←hnum] at Kv
       have Zi:=hid (show num≤9223372036854775807 from by rw [hnum];exact (Ko.out _ (List.getElem_mem hjx)).2.2)
       have hcw:=hup.cell Ka.out.1 Ka.out.2
       have hxd:j<d2:=by omega
       have hji:(j:Int)<(nx:Int):=by omega
       have hgw:g<wr.heap.size:=Nat.lt_of_lt_of_le Ka.out.1 hup.size
       clear hx3 hjx hx1 hx2 hnum hup hcell
       have hcur:=hid ((Upd.refl (fun _=>False) wr).drew)
       have Zj:=hid (refRunName_any wr.drew pre num HP.out Zi.out)
       go_upto_region 17 with fail
       go_region_held3 (fun V=>V.cell? ⟨p5,6,none⟩=some (.slice (some ⟨bx,ox,none⟩) nx d2)∧V.cell? ⟨bx,ox+j*8,none⟩=some (.int .i64 num)∧V.cell? ⟨g,k,none⟩=some (.string f))
        (first
         | (exact ⟨hcur.out.cell hzl z6,hcur.out.cell hbx t0,hcur.out.cell hgw hcw⟩)
         | go_keep)
        (first
         | (go_at_call 158;refine Zj.out.mono ?_;rintro e W6 ⟨rfl,hu6⟩;have hcur:=hid ((Upd.refl (fun _=>False) wr).drew.trans hu6 (fun _ _ e=>e)))
         | fail)
       all_goals
        have Km:=hid (Zq.out.trans ((Upd.refl (fun _=>False) wr).drew.trans hu6 (fun _ _ e=>e)) (fun _ _ e=>e))
        clear hu6 hcur Zj
        go_wp2
        ·rename_i hh
         have he:runName pre num=f:=by
          have hq:=beq_toList (runName pre num) f
          rw [hh] at hq
          exact of_decide_eq_true hq.symm
         have Kw:=hid (show (G0 && !namedB pre (x.runs.take (j+1)) f)=false from by rw [Kv.out,decide_eq_true he];simp)
         go_roundw
         case rel=>exact ⟨j+1,by omega,by go_num,by rw [Kw.out],Km.out⟩
         case measure=>simp [intOf];omega
        ·rename_i hh
         have he:¬runName pre num=f:=by
          have hq:=beq_toList (runName pre num) f
          rw [hh] at hq
          exact of_decide_eq_false hq.symm
         have Kw:=hid (show (G0 && !namedB pre (x.runs.take (j+1)) f)=(G0 && !namedB pre (x.runs.take j) f) from by rw [Kv.out,decide_eq_false he,Bool.or_false])
         go_roundw
         case rel=>exact ⟨j+1,by omega,by go_num,by rw [Kw.out],Km.out⟩
         case measure=>simp [intOf];omega
      ·have hjn2:j=nx:=by omega
       have HE:=hid (show (G0 && !namedB pre (x.runs.take j) f)=goesP pre x.runs f from by rw [hjn2,HM.out.2,List.take_length,Ku.out];exact swap_goes _ _ _)
       obtain ⟨G,hG⟩:∃b,b=(G0 && !namedB pre (x.runs.take j) f):=⟨_,rfl⟩
       rw [←hG] at HE⊢
       have Kf:=hid (Kb.out.quiet hup)
       have hcw:=hup.cell Ka.out.1 Ka.out.2
       have hgw:g<wr.heap.size:=Nat.lt_of_lt_of_le Ka.out.1 hup.size
       clear hG hup hcell
       cases G with
       | false=>
        have Ki:=hid (show O=sweepR (goesP pre x.runs) (LL.drop (k+1)) gone ak from by rw [HO.out,Zf.out,sweepR_cons,if_pos HE.out.symm])
        go_wp2
        go_roundw
        case rel=>exact ⟨k+1,by omega,by go_num,ga,gn,gc,gone,rk,ak,rfl,Kl.out,Kf.out,by omega,Ki.out⟩
        case measure=>simp [intOf];omega
       | true=>
        have HX:=hid (Kf.out.go.ra.delete f)
        rw [Kf.out.go.st.p,←Kp.out] at HX
        obtain ⟨D,hD⟩:∃D,D=deleteP ak f:=⟨_,rfl⟩
        rw [←hD] at HX
        have Ki:=hid (show O=if D.1≠0 then ((gone,D.1),D.2) else sweepR (goesP pre x.runs) (LL.drop (k+1)) (gone ++ [f]) D.2 from by rw [HO.out,Zf.out,hD,sweepR_cons,if_neg (by rw [←HE.out];decide)])
        obtain ⟨de,da⟩:=D
        simp only at HX Ki
        clear hD
        go_wp2_with fail
        refine HX.out.mono ?_
        rintro e W9 ⟨rfl,r9,hg9⟩
        have Kd:=hid (Kf.out.del hg9)
        clear hg9
        by_cases hde:de=0
        ·subst hde
         have Zk:=hid (show O=sweepR (goesP pre x.runs) (LL.drop (k+1)) (gone ++ [f]) da from by rw [Ki.out,if_neg (by decide)])
         obtain ⟨ga',gc',W10,hrun,hsw10⟩:=Kd.out.push Kl.out f (by have:=Kl.out;omega)
         have Zl:=hid hrun;have Kx:=hid hsw10
         obtain ⟨hkl',hf'⟩:=Zp.out
         obtain ⟨g',c',e',hgl',hc'⟩:=Kd.out.lr.at hkl'
         rw [←hf'] at hc'
         clear hf'
         injection e' with e1' e2' e3'
         injection e1' with e1'
         injection e1' with e1'
         subst e1'
         clear hrun hsw10 e2' e3'
         go_wp2_with (at_builtin;refine wpList_append_run rfl _ _ _ rfl rfl rfl Zl.out ?_)
         go_roundw
         case rel=>exact ⟨k+1,by omega,by go_num,ga',gn+1,gc',gone ++ [f],r9,da,rfl,by rw [List.length_append,←Kl.out];rfl,Kx.out,by omega,Zk.out⟩
         case measure=>simp [intOf];omega
        ·have hne:(de != 0)=true:=by simpa using hde
         have HF:=hid (show O=((gone,de),da) from by rw [Ki.out,if_pos hde])
         go_wp2
         go_ret2
         rw [HF.out]
         exact ⟨_,rfl,Kd.out.gr,r9,Kd.out.go,fun b e=>(Kd.out.gn b e).1⟩
   ·obtain rfl:k=NL:=by omega
    have HF:=hid (show O=((gone,0),ak) from by rw [HO.out,List.drop_eq_nil_of_le (by have:=Ze.out;omega)];rfl)
    clear hsw
    go_wp2
    go_ret2
    rw [HF.out]
    exact ⟨_,rfl,Kb.out.gr,rk,Kb.out.go,fun b e=>(Kb.out.gn b e).1⟩
end Go.Proofs.YtgaidmohdhaonaaGreatDoor
