/-
  Package strataref4, walked: put.
  Package strataref4: one file of the row has turned.
  Package strataref4, walked: copied, Files.
  Package strataref4, walked: Size, Read, List.
-/
import Derived.Test.YtgaidmohdhaonaaGreatDoorRD
set_option linter.unusedVariables false
set_option linter.unusedSimpArgs false
set_option linter.unnecessarySimpa false
set_option linter.unusedSectionVars false
set_option maxRecDepth 100000
set_option maxHeartbeats 3200000
namespace Go.Proofs.YtgaidmohdhaonaaGreatDoor
open Go Go.RowKit
theorem refPut_any {w:World} {r:RS} (hr:r.In w) (f:FV) (hd:DataIs w f.dv f.data) (hdo:∀k,f.dv.ownBlock=some k→r.base≤k∧¬r.own k) (hcount:r.F.length<256) (hroom:usedR r.F+f.data.length≤r.room) (hsy:f.synced≤f.data.length) :
  Calls Tryz.prog 153 #[.pointer (some ⟨r.p,0,none⟩),.agg f.cells.toArray] w fun e w'=>e=.returned (.tuple #[])∧∃fv',({ r with fv:=fv',F:=putR r.F f } : RS).In w'∧Upd r.own w w'∧
   ∀k,({ r with fv:=fv',F:=putR r.F f } : RS).own k→r.own k∨f.dv.ownBlock=some k∨w.heap.size≤k:=by
 obtain ⟨ao,cap,hfv,hcap,hat⟩:=hr.at
 have c1:=hr.c_f
 rw [hfv] at c1
 have f1:=hr.free 1
 have hp:=hr.plt
 obtain ⟨pf,qf,hfd,-,-,-,-⟩:=hd.shape
 have Ko:=hid hat;have HR:=hid hr;have HD:=hid hd;have Kh:=hid hdo;have Kp:=hid hfv;have Kx:=hid hfd;have Kl:=hid hroom;have Ky:=hid hsy
 have hcells:f.cells.toArray=#[.string f.name,.slice pf f.data.length qf,.int .i64 f.synced]:=by rw [FV.cells,hfd]
 rw [hcells]
 clear hat hr hfv hd hdo hfd hcells hroom hsy
 go_enter Tryz.func153,Tryz.ntmps153
 go_wp2
 have hbu:=(Upd.refl (fun _=>False) w).alloc (.cells #[.string f.name,.slice pf f.data.length qf,.int .i64 f.synced] 185)
 have hb0:=heap_alloc_new w (.cells #[.string f.name,.slice pf f.data.length qf,.int .i64 f.synced] 185)
 obtain ⟨w1,hw1⟩:∃w1,w1=w.alloc (.cells #[.string f.name,.slice pf f.data.length qf,.int .i64 f.synced] 185):=⟨_,rfl⟩
 rw [←hw1] at hbu hb0⊢
 have hs1:w1.heap.size=w.heap.size+1:=by rw [hw1];simp
 obtain ⟨fb,hfb⟩:∃fb,fb=w.heap.size:=⟨_,rfl⟩
 rw [←hfb] at hb0⊢
 have hfbl:fb<w1.heap.size:=by omega
 have hfbp:fb≠r.p:=by omega
 have Ki:=hid hbu;have Kz:=hid hb0;have Zd:=hid hfb;have Kq:=hid hs1
 clear hw1 hbu hb0 hfb hs1
 go_loopw [4,5] (fun lv i wr=>∃k:Nat,k≤r.F.length∧i=.int .i64 k∧FilesAt wr r.base lv (r.F.take k)∧(∀b,lv.ownBlock=some b→w1.heap.size≤b)∧Upd (fun _=>False) w1 wr∧(∀j (hj:j<r.F.length),j<k→Op.bytesLess r.F[j].name.toList f.name.toList=true)) (fun _ i _=>r.F.length-(intOf i).toNat)
 case atStart=>exact ⟨0,Nat.zero_le _,rfl,by simpa using (⟨World.ownsRow_nil _ _ _ _,by simp,by simp [fvBlocks],by simp [fvBlocks,Value.ownBlock]⟩:FilesAt w1 r.base (.slice none 0 0) []),fun b hb=>(by cases hb),Upd.refl _ _,by simp⟩
 case round=>
  obtain ⟨k,hk,rfl,hfa,hlo,hup,hls⟩:=hrel
  have Kj:=hid hfa;have Kf:=hid hlo;have Km:=hid hup;have Kr:=hid hls
  have Ka:=hid (Ki.out.trans hup (fun _ _ h=>h))
  have hp1:r.p<w1.heap.size:=Nat.lt_of_lt_of_le hp Ki.out.size
  have hpr:r.p<wr.heap.size:=Nat.lt_of_lt_of_le hp1 hup.size
  have hfbr:fb<wr.heap.size:=Nat.lt_of_lt_of_le hfbl hup.size
  have c1':wr.cell? ⟨r.p,1,none⟩=some (.slice ao r.F.length cap):=(World.cell?_of_block (a:=⟨r.p,1,none⟩) (Ka.out.block r.p hp (fun h=>h))).trans c1
  have f1':wr.frozen? ⟨r.p,1,none⟩=false:=(World.frozen?_of_block (a:=⟨r.p,1,none⟩) (Ka.out.block r.p hp (fun h=>h))).trans f1
  have hbr:=hup.get Kz.out (fun h=>h)
  have b0:wr.cell? ⟨fb,0,none⟩=some (.string f.name):=by rw [cell_of_row wr _ 0 _ _ _ hbr];rfl
  have b1:wr.cell? ⟨fb,1,none⟩=some (.slice pf f.data.length qf):=by rw [cell_of_row wr _ 1 _ _ _ hbr];rfl
  have b2:wr.cell? ⟨fb,2,none⟩=some (.int .i64 f.synced):=by rw [cell_of_row wr _ 2 _ _ _ hbr];rfl
  clear hfa hlo hup hls hbr
  by_cases hgo:∃h:k<r.F.length,Op.bytesLess r.F[k].name.toList f.name.toList=true
  ·obtain ⟨hlt,hless⟩:=hgo
   obtain ⟨g,rfl,hg,hgp,d0,d1,d2⟩:=Ko.out k hlt
   have e0:=(World.cell?_of_block (a:=⟨g,k*3,none⟩) (Ka.out.block g hg (fun h=>h))).trans d0
   have e1:=(World.cell?_of_block (a:=⟨g,k*3+1,none⟩) (Ka.out.block g hg (fun h=>h))).trans d1
   have e2:=(World.cell?_of_block (a:=⟨g,k*3+2,none⟩) (Ka.out.block g hg (fun h=>h))).trans d2
   have hgr:g<wr.heap.size:=Nat.lt_of_lt_of_le hg Ka.out.size
   have hmem:r.F[k]∈r.F:=List.getElem_mem hlt
   have hdk:DataIs wr r.F[k].dv r.F[k].data:=(HR.out.files.data _ hmem).upd Ka.out (fun _ _ h=>h)
   have hndF:(fvBlocks r.F).Nodup:=(List.nodup_append.1 HR.out.files.nodup).2.1
   have hdo2:∀b,r.F[k].dv.ownBlock=some b→r.base≤b∧¬ownFiles u4 (r.F.take k) b:=fun b hb=>
    ⟨HR.out.files.low b (mem_fvBlocks.2 ⟨_,hmem,hb⟩),fun ho=>ho.elim (fun h1=>by have h2:=Kf.out b h1;have h3:=(HR.out.files.data _ hmem).lt b hb;have:=Ki.out.size;omega) (fun h1=>fvBlocks_at hndF hlt hb h1)⟩
   obtain ⟨p1,q1,hv1,-,-,-,-⟩:=hdk.shape
   rw [hv1] at e1
   have hls2:∀j (hj:j<r.F.length),j<k+1→Op.bytesLess r.F[j].name.toList f.name.toList=true:=by
    intro j hj hjk
    rcases Nat.lt_or_eq_of_le (Nat.le_of_lt_succ hjk) with h|h
    ·exact Kr.out j hj h
    ·subst h;exact hless
   have Ks:=hid hls2;have Kt:=hid hdk;have Kk:=hid hdo2;have Ku:=hid hv1
   have htk:r.F.take (k+1)=r.F.take k ++ [r.F[k]]:=List.take_succ_eq_append_getElem hlt
   have Kv:=hid htk
   have Za:=hid hlt
   obtain ⟨x,hx⟩:∃x,x=r.F[k]'hlt:=⟨_,rfl⟩
   rw [←hx] at e0 e1 e2 hless Kt Kk Ku Kv
   clear hls2 hdk hdo2 hv1 htk d0 d1 d2 hx hmem hndF
   go_wp2_with fail
   go_quiet (fail)
   revert nq
   intro q1'
   have hfa2:=Kj.out.keep (show Upd (fun _=>False) wr (wr.drewN q1') from (Upd.refl _ _).drewN q1') (fun _ _ h=>h)
   obtain ⟨v',w3,hrun,hfa3,hup3,hat3⟩:=run_append_file2 (nm:=x.name) (sy:=x.synced) hfa2 (Nat.le_trans (Nat.le_trans HR.out.base Ka.out.size) (Nat.le_refl _)) (Kt.out.upd ((Upd.refl (fun _=>False) wr).drewN q1') (fun _ _ h=>h)) Kk.out (by simp;omega) 111
   rw [Ku.out] at hrun
   have Kw:=hid hrun
   have H1:=hid (show FilesAt w3 r.base v' (r.F.take (k+1)) by rw [Kv.out];exact hfa3)
   have H2:=hid hup3;have H3:=hid hat3
   clear hrun hfa2 hfa3 hup3 hat3
   go_wp2_with (at_builtin;refine wpList_append_runR rfl _ _ _ rfl rfl rfl Kw.out ?_)
   go_roundw
   case rel=>exact ⟨k+1,Za.out,by go_num,H1.out,fun b hb=>(H3.out b hb).elim (Kf.out b) (fun h=>Nat.le_trans Km.out.size h),(Km.out.drewN q1').trans H2.out (fun b hb e=>by have:=Kf.out b e;omega),Ks.out⟩
   case measure=>simp [intOf];omega
  ·have hpos:putPos r.F f.name=k:=putPos_at hk Kr.out (fun h=>by
    cases hb:Op.bytesLess r.F[k].name.toList f.name.toList with
    | false=>rfl
    | true=>exact absurd ⟨h,hb⟩ hgo)
   have Zb:=hid hpos
   go_upto_region 3 with fail
   go_cut [25] (fun t wx=>t=.bool false∧∃q,wx=wr.drewN q)
   case first=>
    by_cases hlt:k<r.F.length
    ·have hless:Op.bytesLess r.F[k].name.toList f.name.toList=false:=by
      cases hb:Op.bytesLess r.F[k].name.toList f.name.toList with
      | false=>rfl
      | true=>exact absurd ⟨hlt,hb⟩ hgo
     obtain ⟨g,rfl,hg,hgp,d0,d1,d2⟩:=Ko.out k hlt
     have e0:=(World.cell?_of_block (a:=⟨g,k*3,none⟩) (Ka.out.block g hg (fun h=>h))).trans d0
     have hgr:g<wr.heap.size:=Nat.lt_of_lt_of_le hg Ka.out.size
     obtain ⟨x,hx⟩:∃x,x=r.F[k]'hlt:=⟨_,rfl⟩
     rw [←hx] at e0 hless
     clear hx d0 d1 d2 hgo hpos
     go_quiet (fail)
     go_wp2
     go_meet
     case rel=>exact ⟨rfl,_,rfl⟩
    ·obtain rfl:k=r.F.length:=by omega
     clear hgo hpos
     go_quiet (fail)
     go_wp2
     go_meet
     case rel=>exact ⟨rfl,_,rfl⟩
   case rest=>
   obtain ⟨rfl,q,hwc⟩:=hcut
   have hq:Upd (fun _=>False) wr wc:=by rw [hwc];exact (Upd.refl _ _).drewN q
   clear hwc
   have Kn:=hid (Ka.out.trans hq (fun _ _ h=>h))
   have hfa2:=Kj.out.keep hq (fun _ _ h=>h)
   have hsz2:wr.heap.size≤wc.heap.size:=hq.size
   have b0':=(World.cell?_of_block (a:=⟨fb,0,none⟩) (hq.block fb hfbr (fun h=>h))).trans b0
   have b1':=(World.cell?_of_block (a:=⟨fb,1,none⟩) (hq.block fb hfbr (fun h=>h))).trans b1
   have b2':=(World.cell?_of_block (a:=⟨fb,2,none⟩) (hq.block fb hfbr (fun h=>h))).trans b2
   have hfbc:fb<wc.heap.size:=Nat.lt_of_lt_of_le hfbr hsz2
   have hdw:DataIs wc f.dv f.data:=HD.out.upd Kn.out (fun _ _ h=>h)
   have hndF:(fvBlocks r.F).Nodup:=(List.nodup_append.1 HR.out.files.nodup).2.1
   have hfvF:∀b∈fvBlocks r.F,b<w.heap.size:=fun b hb=>HR.out.lt (.inr (.inr hb))
   have htakeF:∀b∈fvBlocks (r.F.take k),b∈fvBlocks r.F:=fun b hb=>by obtain ⟨x,hx,h2⟩:=mem_fvBlocks.1 hb;exact mem_fvBlocks.2 ⟨x,List.mem_of_mem_take hx,h2⟩
   have hu4:∀b,u4.ownBlock=some b→w.heap.size<b:=fun b hb=>by have:=Kf.out b hb;have:=Kq.out;omega
   have hdo2:∀b,f.dv.ownBlock=some b→r.base≤b∧¬ownFiles u4 (r.F.take k) b:=fun b hb=>
    ⟨(Kh.out b hb).1,fun ho=>ho.elim (fun h1=>by have:=hu4 b h1;have:=HD.out.lt b hb;omega) (fun h1=>(Kh.out b hb).2 (.inr (.inr (htakeF b h1))))⟩
   obtain ⟨v6,w6,hrun6,hfa6,hup6,hat6⟩:=run_append_file2 (nm:=f.name) (sy:=f.synced) hfa2 (Nat.le_trans HR.out.base Kn.out.size) hdw hdo2 (by simp;omega) 111
   rw [Kx.out] at hrun6
   have hu6:Upd (fun _=>False) w w6:=Kn.out.trans hup6 (fun b hb e=>by have:=hu4 b e;omega)
   have hv6:∀b,v6.ownBlock=some b→w.heap.size<b:=fun b hb=>(hat6 b hb).elim (hu4 b) (fun h=>by have:=Ki.out.size;have:=Km.out.size;have:=Kq.out;omega)
   have hF6:FilesAt w6 r.base r.fv r.F:=HR.out.files.keep hu6 (fun _ _ h=>h)
   have hp6:r.p<w6.heap.size:=Nat.lt_of_lt_of_le hp hu6.size
   have c6:w6.cell? ⟨r.p,1,none⟩=some (.slice ao r.F.length cap):=(World.cell?_of_block (a:=⟨r.p,1,none⟩) (hu6.block r.p hp (fun h=>h))).trans c1
   have hperm:(r.F.take k++f :: r.F.drop k).Perm (f :: r.F):=List.perm_middle.trans (by rw [List.take_append_drop])
   have hndA:(fvBlocks (r.F.take k++f :: r.F.drop k)).Nodup:=by
    refine (fvBlocks_perm hperm).nodup_iff.2 ?_
    have e:fvBlocks (f :: r.F)=f.dv.ownBlock.toList++fvBlocks r.F:=by simp [fvBlocks]
    rw [e,List.nodup_append]
    refine ⟨by cases f.dv.ownBlock<;>simp,hndF,fun a ha b hb e=>?_⟩
    have ha':f.dv.ownBlock=some a:=by simpa using ha
    exact (Kh.out a ha').2 (.inr (.inr (e ▸ hb)))
   have hputR:putR r.F f=r.F.take k++f :: r.F.drop k:=by unfold putR;rw [hpos]
   have hend:∀v7 w7,FilesAt w7 r.base v7 (r.F.take k++f :: r.F.drop k)→Upd (fun b=>v6.ownBlock=some b) w6 w7→(v7.ownBlock=v6.ownBlock∨v7.ownBlock=some w6.heap.size∨v7=v6)→
     w7.cell? ⟨r.p,1,none⟩=some (.slice ao r.F.length cap)∧w7.frozen? ⟨r.p,1,none⟩=false∧r.p<w7.heap.size∧(({ r with fv:=v7,F:=putR r.F f } : RS).In (w7.setCell ⟨r.p,1,none⟩ v7)∧Upd r.own w (w7.setCell ⟨r.p,1,none⟩ v7)∧
     ∀j,({ r with fv:=v7,F:=putR r.F f } : RS).own j→r.own j∨f.dv.ownBlock=some j∨w.heap.size≤j):=by
    intro v7 w7 hfa7 hup7 hat7
    have hu7:Upd (fun _=>False) w w7:=hu6.trans hup7 (fun b hb e=>by have:=hv6 b e;omega)
    have hv7:∀b,v7.ownBlock=some b→w.heap.size≤b:=fun b hb=>by
     rcases hat7 with h|h|h
     ·have:=hv6 b (h ▸ hb);omega
     ·rw [h] at hb
      have:w6.heap.size=b:=by simpa using hb
      have:=hu6.size
      omega
     ·have:=hv6 b (h ▸ hb);omega
    have hall:∀b∈fvBlocks (r.F.take k++f :: r.F.drop k),b∈fvBlocks r.F∨f.dv.ownBlock=some b:=fun b hb=>by
     have h1:=(fvBlocks_perm hperm).mem_iff.1 hb
     obtain ⟨x,hx,h2⟩:=mem_fvBlocks.1 h1
     rcases List.mem_cons.1 hx with rfl|hx
     ·exact .inr h2
     ·exact .inl (mem_fvBlocks.2 ⟨x,hx,h2⟩)
    have hpo:¬ownFiles v7 (r.F.take k++f :: r.F.drop k) r.p:=fun h=>h.elim (fun h1=>by have:=hv7 _ h1;omega) (fun h1=>(hall _ h1).elim (fun h2=>HR.out.apart (.inr h2)) (fun h2=>(Kh.out _ h2).2 (.inl rfl)))
    have hU:Upd (fun b=>b=r.p) w (w7.setCell ⟨r.p,1,none⟩ v7):=(hu7.mono (T:=fun b=>b=r.p) (fun _ _ h=>h.elim)).setCell (p:=⟨r.p,1,none⟩) (fun _=>rfl) v7
    refine ⟨(World.cell?_of_block (a:=⟨r.p,1,none⟩) (hu7.block r.p hp (fun h=>h))).trans c1,(World.frozen?_of_block (a:=⟨r.p,1,none⟩) (hu7.block r.p hp (fun h=>h))).trans f1,Nat.lt_of_lt_of_le hp hu7.size,?_,hU.mono (fun b _ e=>.inl e),?_⟩
    ·rw [hputR]
     refine ⟨?_,?_,Nat.le_trans HR.out.base hU.size,hpo,?_,?_,HR.out.cap,HR.out.armed,?_⟩
     ·exact heap_setCell_at _ _ _ _ _ _ ((hu7.block r.p hp (fun h=>h)).trans HR.out.top)
     ·exact hfa7.keep (Upd.cell_only w7 r.p 1 v7) (fun b hb e=>hpo (e ▸ hb))
     ·have:=hperm.length_eq
      rw [this]
      simp;omega
     ·rw [usedR_perm hperm]
      have:=Kl.out
      simp only [usedR,List.map_cons,List.sum_cons] at this⊢
      omega
     ·intro y hy
      rcases List.mem_cons.1 (hperm.mem_iff.1 hy) with rfl|hy
      ·exact Ky.out
      ·exact HR.out.synced y hy
    ·intro j hj
     rw [hputR] at hj
     rcases hj with hj|hj|hj
     ·exact .inl (.inl hj)
     ·exact .inr (.inr (hv7 j hj))
     ·rcases hall j hj with h|h
      ·exact .inl (.inr (.inr h))
      ·exact .inr (.inl h)
   have Kd:=hid hend
   have Kg:=hid hrun6
   have hgl:(r.F.take k ++ [f]).length+r.F.length≤1000000:=by simp;omega
   have Zc:=hid hndA
   rw [Kp.out] at hF6
   rcases hF6.row.2 with ⟨e,hz⟩|⟨g,cap',cur,e,-,hg,-⟩
   ·injection e with ea eb ec
    have hnil:r.F=[]:=List.eq_nil_of_length_eq_zero hz
    have hk0:k=0:=by omega
    have hfa7:FilesAt w6 r.base v6 (r.F.take k++f :: r.F.drop k):=by
     have:r.F.drop k=[]:=by rw [hnil];simp
     rw [this];exact hfa6
    obtain ⟨i0,hi,hz0,hz1,hz2⟩:=info_parts Tryz.infoFile
    have hrun7:=run_append_owned_none (P:=Tryz.prog) (w:=w6) r.base 111 111 185 i0 3 Tryz.underlying111 hi v6 _ _ hfa6.row
    obtain ⟨c7,f7,hp7,hfin⟩:=Kd.out v6 w6 hfa7 (Upd.refl _ _) (.inr (.inr rfl))
    have hru6:=hrun6
    obtain ⟨a7,q7,hv7s,-,-,-⟩:=hfa7.shape
    obtain ⟨LL,hLL⟩:∃LL,LL=(r.F.take k++f :: r.F.drop k).length:=⟨_,rfl⟩
    rw [←hLL] at hv7s
    subst hv7s
    have Kb:=hid hrun7;have Kc:=hid hru6
    have Ke:=hid hfin
    rw [ea,ec,hz] at c6 c1'
    rw [ea,ec,hz] at c7
    subst hk0
    clear hrun7 hru6 hrun6 hfin hLL hfa7 hfa6 hend hF6 Kj Kf hnil hz0 hz1 hz2 hi hgl hdw hdo2 hfa2 hup6 hat6 hv6 hu6 hndF hfvF htakeF hu4 hperm hndA hputR hgo hpos Kg Kd
    go_upto_region 7 with (at_builtin;refine wpList_append_runR rfl _ _ _ rfl rfl rfl Kc.out ?_)
    go_wp2_with (at_builtin;refine wpList_append_runR rfl _ _ _ rfl rfl rfl Kb.out ?_)
    go_end0
    exact ⟨rfl,_,Ke.out⟩
   ·injection e with ea eb ec
    subst ea ec
    have hfa6:FilesAt w6 r.base v6 (r.F.take k ++ [f]):=hfa6
    obtain ⟨ad,had,hads⟩:∃ad:Addr,(k<r.F.length→ad=⟨g,k*3,none⟩)∧(if cap=k then ad=⟨g,0,none⟩ else ad=⟨g,k*3,none⟩):=by
     by_cases hck:cap=k
     ·exact ⟨⟨g,0,none⟩,fun h=>by omega,by rw [if_pos hck]⟩
     ·exact ⟨⟨g,k*3,none⟩,fun _=>rfl,by rw [if_neg hck]⟩
    have hgv6:¬v6.ownBlock=some g:=fun e=>by have h1:=hv6 g e;have h2:=hF6.row.lt g (by simp [Value.ownBlock]);have h3:=HR.out.files.row.lt g (by rw [Kp.out];rfl);omega
    have hdl:∀b∈fvBlocks (r.F.drop k),¬v6.ownBlock=some b:=fun b hb e=>by
     obtain ⟨x,hx,h2⟩:=mem_fvBlocks.1 hb
     have h1:=hv6 b e
     have h3:=hfvF b (mem_fvBlocks.2 ⟨x,List.mem_of_mem_drop hx,h2⟩)
     omega
    have hndA2:(fvBlocks ((r.F.take k ++ [f])++r.F.drop k)).Nodup:=by rw [List.append_assoc];exact hndA
    obtain ⟨v7,w7,hrun7,hfa7,hup7,hat7⟩:=run_append_rest (c:=cap-k) hfa6 (Nat.le_trans HR.out.base hu6.size) hF6 hk hgv6 hdl hndA2 hgl ad had 111
    have hfa7:FilesAt w7 r.base v7 (r.F.take k++f :: r.F.drop k):=by rw [List.append_assoc] at hfa7;exact hfa7
    obtain ⟨c7,f7,hp7,hfin⟩:=Kd.out v7 w7 hfa7 hup7 (hat7.elim .inl (fun h=>.inr (.inl h)))
    obtain ⟨a6,q6,hv6s,-,-,-⟩:=hfa6.shape
    obtain ⟨a7,q7,hv7s,-,-,-⟩:=hfa7.shape
    obtain ⟨L6,hL6⟩:∃L6,L6=(r.F.take k ++ [f]).length:=⟨_,rfl⟩
    obtain ⟨LL,hLL⟩:∃LL,LL=(r.F.take k++f :: r.F.drop k).length:=⟨_,rfl⟩
    rw [←hL6] at hv6s
    rw [←hLL] at hv7s
    subst hv6s hv7s
    obtain ⟨FL,hFL⟩:∃FL,FL=r.F.length:=⟨_,rfl⟩
    have Kb:=hid hrun7;have Kc:=hid hrun6
    have Ke:=hid hfin
    have hkF:=hk
    have hcc:=hcap
    clear hrun7 hrun6 hfin hL6 hLL hfa7 hfa6 hend hF6 Kj Kf hgl hdw hdo2 hfa2 hup6 hat6 hv6 hu6 hndF hfvF htakeF hu4 hperm hndA hndA2 hputR hgo hpos Kg Kd hup7 hat7 hgv6 hdl had hg hFL
    by_cases hck:cap=k
    ·rw [if_pos hck] at hads
     subst hads
     go_upto_region 7 with (at_builtin;refine wpList_append_runR rfl _ _ _ rfl rfl rfl Kc.out ?_)
     go_wp2_with (at_builtin;refine wpList_append_runR rfl _ _ _ rfl rfl rfl Kb.out ?_)
     go_end0
     exact ⟨rfl,_,Ke.out⟩
    ·rw [if_neg hck] at hads
     subst hads
     go_upto_region 7 with (at_builtin;refine wpList_append_runR rfl _ _ _ rfl rfl rfl Kc.out ?_)
     go_wp2_with (at_builtin;refine wpList_append_runR rfl _ _ _ rfl rfl rfl Kb.out ?_)
     go_end0
     exact ⟨rfl,_,Ke.out⟩
theorem refCopied_any {w:World} {v:Value} {bs:List UInt8} (hv:BytesAt w v bs) (hl:bs.length≤1073741824) :
  Calls Tryz.prog 123 #[v] w fun e w'=>∃v',e=.returned v'∧DataIs w' v' bs∧(∀k,v'.ownBlock=some k→w.heap.size≤k)∧Upd (fun _=>False) w w':=by
 obtain ⟨v',w',hrun,hd,hu,hat⟩:=run_append_data (w:=w) (v:=.slice none 0 0) (bs:=[]) (.inl ⟨rfl,rfl⟩) hv (by simp only [List.length_nil];omega) 22
 obtain ⟨ao,cap,rfl,-,-⟩:=hv
 obtain ⟨a2,c2,hsh,-,-,-,-⟩:=hd.shape
 subst hsh
 have Ka:=hid hrun;have H1:=hid hd;have H2:=hid hu;have H3:=hid hat
 clear hrun hd hu hat
 go_enter Tryz.func123,Tryz.ntmps123
 go_wp2_with (at_builtin;refine wpList_append_runR rfl _ _ _ rfl rfl rfl Ka.out ?_)
 go_ret
 exact ⟨_,rfl,by simpa using H1.out,fun k hk=>(H3.out k hk).elim (fun e=>by cases e) id,H2.out.mono (fun k _ e=>by cases e)⟩
theorem refFiles_any {w : World} {r : RS} (hr : r.In w) :
    Calls Tryz.prog 54 #[.pointer (some ⟨r.p,0,none⟩)] w fun e w'=>
      ∃v l,e=.returned v∧FilesAt w' w.heap.size v l∧l.map FV.abs=r.F.map FV.abs∧Upd (fun _=>False) w w':=by
  obtain ⟨ao,cap,hfv,hcap,hat⟩:=hr.at
  have c1:=hr.c_f
  rw [hfv] at c1
  have hp:=hr.plt
  have hct:=hr.count
  have Kd:=hid hat;have HR:=hid hr
  clear hat hr hfv
  go_enter Tryz.func54,Tryz.ntmps54
  go_wp2
  go_loopw [3,4] (fun lv i wr=>∃k:Nat,k≤r.F.length∧i=.int .i64 k∧(∃l,l.length=k∧FilesAt wr w.heap.size lv l∧l.map FV.abs=(r.F.map FV.abs).take k)∧Upd (fun _=>False) w wr) (fun _ i _=>r.F.length-(intOf i).toNat)
  case atStart=>exact ⟨0,Nat.zero_le _,rfl,⟨[],rfl,⟨World.ownsRow_nil _ _ _ _,by simp,by simp [fvBlocks],by simp [fvBlocks,Value.ownBlock]⟩,rfl⟩,Upd.refl _ _⟩
  case round=>
    obtain ⟨k,hk,rfl,⟨l,hl,hfa,habs⟩,hup⟩:=hrel
    have Ka:=hid hup;have HA:=hid habs;have Kb:=hid hfa
    have hpr:r.p<wr.heap.size:=Nat.lt_of_lt_of_le hp hup.size
    have c1':wr.cell? ⟨r.p,1,none⟩=some (.slice ao r.F.length cap):=(World.cell?_of_block (a:=⟨r.p,1,none⟩) (hup.block r.p hp (fun h=>h))).trans c1
    clear hup habs hfa
    by_cases hlt:k<r.F.length
    · obtain ⟨g,rfl,hg2,hgp,d0,d1,d2⟩:=Kd.out k hlt
      have hmem:r.F[k]∈r.F:=List.getElem_mem hlt
      have hby:=(HR.out.files.data r.F[k] hmem).bytes
      have lt1:=(HR.out.files.data r.F[k] hmem).lt
      have hsm:r.F[k].data.length≤67108864:=by
        have h1:=usedR_step r.F k hlt
        have h2:=usedR_le r.F (k+1)
        have:=HR.out.room;have:=HR.out.cap
        omega
      obtain ⟨p1,q1,hv1,-⟩:=(HR.out.files.data r.F[k] hmem).shape
      obtain ⟨f1,hf1⟩:∃f,f=r.F[k]'hlt:=⟨_,rfl⟩
      rw [←hf1] at d0 d1 d2 hby lt1 hv1 hsm
      have hgr:g<wr.heap.size:=Nat.lt_of_lt_of_le hg2 Ka.out.size
      have d0':wr.cell? ⟨g,k*3,none⟩=some (.string f1.name):=by rw [World.cell?_of_block (w:=w) (Ka.out.block g hg2 (fun h=>h))];exact d0
      have d1':wr.cell? ⟨g,k*3+1,none⟩=some (.slice p1 f1.data.length q1):=by rw [World.cell?_of_block (w:=w) (Ka.out.block g hg2 (fun h=>h))];exact d1.trans (by rw [hv1])
      have d2':wr.cell? ⟨g,k*3+2,none⟩=some (.int .i64 f1.synced):=by rw [World.cell?_of_block (w:=w) (Ka.out.block g hg2 (fun h=>h))];exact d2
      rw [hv1] at hby
      have Ke:=hid ((hby.upd Ka.out (fun a l c he _=>⟨fun h=>h,lt1 a.block (by rw [hv1,he];rfl)⟩)))
      have Kf:=hid (show ∀(a:Addr) (l c:Nat),Value.slice p1 f1.data.length q1=.slice (some a) l c→a.block<wr.heap.size from fun a l c he=>Nat.lt_of_lt_of_le (lt1 a.block (by rw [hv1,he];rfl)) Ka.out.size)
      have hws:=Ka.out.size
      have Kg:=hid hf1
      clear d0 d1 d2 hby lt1 hv1 hf1 hmem
      have Kc:=hid (Kb.out.upd ((Upd.refl (fun _=>False) wr).drew) (fun _ _ h=>h))
      have Kh:=hid (Ke.out.upd ((Upd.refl (fun _=>False) wr).drew) (fun a l c he _=>⟨fun h=>h,Kf.out a l c he⟩))
      have hws3:w.heap.size≤wr.drew.heap.size:=Ka.out.size
      go_wp2_with fail
      go_region_held3 (fun W=>W.cell? ⟨r.p,1,none⟩=some (.slice (some ⟨g,0,none⟩) r.F.length cap)∧W.cell? ⟨g,k*3,none⟩=some (.string f1.name)∧W.cell? ⟨g,k*3+1,none⟩=some (.slice p1 f1.data.length q1)∧W.cell? ⟨g,k*3+2,none⟩=some (.int .i64 f1.synced))
        (first
          | go_keep
          | (go_split_ands
             refine ⟨?_, ?_, ?_, ?_⟩
             · (first | (rw [World.cell?_of_block (w := wr.drew) (a := ⟨r.p, 1, none⟩) (hU3.block r.p (by simpa using hpr) (fun e => by have := (Kb.out.row.lt _ e).1; omega))]; assumption) | (rw [World.cell?_of_block (w := wr.drew) (a := ⟨r.p, 1, none⟩) (hbel.block r.p (by simpa using hpr) (fun h => h))]; assumption) | (simp [go_sem]; first | assumption | done))
             · (first | (rw [World.cell?_of_block (w := wr.drew) (a := ⟨g, k * 3, none⟩) (hU3.block g (by simpa using hgr) (fun e => by have := (Kb.out.row.lt _ e).1; omega))]; assumption) | (rw [World.cell?_of_block (w := wr.drew) (a := ⟨g, k * 3, none⟩) (hbel.block g (by simpa using hgr) (fun h => h))]; assumption) | (simp [go_sem]; first | assumption | done))
             · (first | (rw [World.cell?_of_block (w := wr.drew) (a := ⟨g, k * 3 + 1, none⟩) (hU3.block g (by simpa using hgr) (fun e => by have := (Kb.out.row.lt _ e).1; omega))]; assumption) | (rw [World.cell?_of_block (w := wr.drew) (a := ⟨g, k * 3 + 1, none⟩) (hbel.block g (by simpa using hgr) (fun h => h))]; assumption) | (simp [go_sem]; first | assumption | done))
             · (first | (rw [World.cell?_of_block (w := wr.drew) (a := ⟨g, k * 3 + 2, none⟩) (hU3.block g (by simpa using hgr) (fun e => by have := (Kb.out.row.lt _ e).1; omega))]; assumption) | (rw [World.cell?_of_block (w := wr.drew) (a := ⟨g, k * 3 + 2, none⟩) (hbel.block g (by simpa using hgr) (fun h => h))]; assumption) | (simp [go_sem]; first | assumption | done))))
        (first
          | (go_at_call 123;refine (refCopied_any (w:=wr.drew) Kh.out (by omega)).mono ?_;rintro e w2 ⟨vc,rfl,hd,hdo,hbel⟩;obtain ⟨aoc,capc,hsh,-,-,-,-⟩:=hd.shape;subst hsh)
          | (refine step_append_file rfl _ _ rfl (w:=wr.drew) rfl rfl Kc.out (by omega) (hbel.below (Nat.le_refl _) (fun _ h=>h.elim)) hd hdo (by omega) ?_;intro v' w3 hF3 hU3))
      go_wp2
      go_roundw
      case rel=>
        refine ⟨k+1,by omega,by go_num,⟨_,by simp [hl],hF3,?_⟩,Ka.out.drew.trans hU3 (fun b hb e=>by have:=(Kc.out.row.lt b e).1;omega)⟩
        rw [List.map_append,HA.out,List.take_add_one,List.getElem?_map,List.getElem?_eq_getElem hlt,←Kg.out]
        rfl
      case measure=>simp [intOf];omega
    · obtain rfl:k=r.F.length:=by omega
      have hfin:l.map FV.abs=r.F.map FV.abs:=by rw [HA.out];exact List.take_of_length_le (by simp)
      go_wp2
      go_ret
      exact ⟨_,l,rfl,Kb.out,hfin,Ka.out⟩
def RS.abs (r:RS):DiskA:=⟨r.room,r.F.map FV.abs,r.off,r.armed,r.cnt⟩
def lookC (a:DiskA) (n:ByteArray) (t:Bool):Int:=lookRes a.down (nameOk n.data.toList) t (findA a.files n).isSome
theorem atR_cases (l:List FV) (n:ByteArray):(atR l n = -1∧findA (l.map FV.abs) n=none∧∀f∈l,f.name≠n)∨
  ∃k,∃hk:k<l.length,atR l n=k∧l[k].name=n∧findA (l.map FV.abs) n=some l[k].abs:=by
 by_cases h:∀f∈l,f.name≠n
 ·refine .inl ⟨atR_none h,?_,h⟩
  unfold findA
  rw [List.find?_eq_none]
  intro f hf
  obtain ⟨x,hx,rfl⟩:=List.mem_map.1 hf
  simp [beq_bytes,FV.abs,h x hx]
 ·right
  have hex:∃f∈l,f.name=n:=by
   refine Classical.byContradiction (fun hc=>h (fun f hf e=>hc ⟨f,hf,e⟩))
  cases hi:l.findIdx? (fun f=>f.name==n) with
  | none=>
   rw [List.findIdx?_eq_none_iff] at hi
   obtain ⟨f,hf,e⟩:=hex
   have:=hi f hf
   simp [beq_bytes,e] at this
  | some k=>
   rw [List.findIdx?_eq_some_iff_getElem] at hi
   obtain ⟨hk,h1,h2⟩:=hi
   have h1':l[k].name=n:=by simpa [beq_bytes] using h1
   have h2':∀j (hj:j<l.length),j<k→l[j].name≠n:=fun j hj hjk=>by simpa [beq_bytes] using h2 j hjk
   refine ⟨k,hk,atR_some hk h2' h1',h1',?_⟩
   unfold findA
   rw [List.find?_map]
   have:List.find? ((fun f:FileA=>f.name==n) ∘ FV.abs) l=some l[k]:=by
    rw [List.find?_eq_some_iff_getElem]
    exact ⟨by simpa [FV.abs] using h1,k,hk,rfl,fun j hj=>by simpa [FV.abs] using h2 j hj⟩
   rw [this];rfl
theorem there_eq (r:RS) (n:ByteArray):lookRes r.off (nameOk n.data.toList) true (decide (0≤atR r.F n))=lookC r.abs n true:=by
 unfold lookC RS.abs
 rcases atR_cases r.F n with ⟨h1,h2,_⟩|⟨k,hk,h1,_,h2⟩
 ·rw [h1,h2];rfl
 ·rw [h1,h2];simp
theorem extract_pre {x p:ByteArray} (h:p.size≤x.size):((x.extract 0 p.size).toList==p.toList)=hasPre p x:=by
 rw [beq_toList]
 unfold hasPre Lib.hasPrefix
 have hl:(x.extract 0 p.size).data.toList=x.data.toList.take p.size:=by simp [ByteArray.data_extract,Array.toList_extract]
 have hs:p.data.toList.length=p.size:=by simp
 rw [Bool.eq_iff_iff,decide_eq_true_eq,List.isPrefixOf_iff_prefix,List.prefix_iff_eq_take,hs,←hl]
 constructor
 ·intro e;rw [e]
 ·intro e
  rw [←toBA_data (x.extract 0 p.size),←e,toBA_data]
def listR (l:List FV) (p:ByteArray):List ByteArray:=(l.map (·.name)).filter (hasPre p)
theorem refList_any {w:World} {r:RS} (hr:r.In w) (p:ByteArray) :
  Calls Tryz.prog 156 #[.pointer (some ⟨r.p,0,none⟩),.string p] w fun e w'=>
   ∃v n,e=.returned v∧w'.ownsRow w.heap.size 9 1 v n ((listR r.F p).map Value.string)∧Upd (fun _=>False) w w':=by
 obtain ⟨i0,hi,hz0,hz1,hz2⟩:=info_parts Tryz.info9'
 obtain ⟨ao,cap,hfv,hcap,hat⟩:=hr.at
 have c1:=hr.c_f
 rw [hfv] at c1
 have hp:=hr.plt
 have hct:=hr.count
 have Kd:=hid hat;have HR:=hid hr
 clear hat hr hfv
 go_enter Tryz.func156,Tryz.ntmps156
 go_wp2
 go_loopw [5,6] (fun lv i wr=>∃k:Nat,k≤r.F.length∧i=.int .i64 k∧(∃m,m≤k∧wr.ownsRow w.heap.size 9 1 lv m ((((r.F.map (·.name)).take k).filter (hasPre p)).map Value.string))∧Upd (fun _=>False) w wr)
  (fun _ i _=>r.F.length-(intOf i).toNat)
 case atStart=>exact ⟨0,Nat.zero_le _,rfl,⟨0,Nat.le_refl _,World.ownsRow_nil _ _ _ _⟩,Upd.refl _ _⟩
 case round=>
  obtain ⟨k,hk,rfl,⟨m,hm,hown⟩,hup⟩:=hrel
  have Ka:=hid hup
  have hpr:r.p<wr.heap.size:=Nat.lt_of_lt_of_le hp hup.size
  have c1':wr.cell? ⟨r.p,1,none⟩=some (.slice ao r.F.length cap):=(World.cell?_of_block (a:=⟨r.p,1,none⟩) (hup.block r.p hp (fun h=>h))).trans c1
  clear hup
  by_cases hlt:k<r.F.length
  ·obtain ⟨g,rfl,hg2,hgp,d0,d1,d2⟩:=Kd.out k hlt
   have hkl:k<(r.F.map (·.name)).length:=by simpa using hlt
   have hcell:wr.cell? ⟨g,k*3,none⟩=some (.string r.F[k].name):=by
    rw [World.cell?_of_block (Ka.out.block g hg2 (fun h=>h))];exact d0
   obtain ⟨x,hx⟩:∃x,x=r.F[k].name:=⟨_,rfl⟩
   rw [←hx] at hcell
   have hstep:=filter_take_step (hasPre p) (r.F.map (·.name)) k hkl
   rw [List.getElem_map,←hx] at hstep
   have Kc:=hid hstep
   have hgr:g<wr.heap.size:=Nat.lt_of_lt_of_le hg2 Ka.out.size
   have hws:=Ka.out.size
   clear hstep hx hkl d0 d1 d2
   by_cases hsz:x.size<p.size
   ·have hpf':hasPre p x=false:=by
     unfold hasPre Lib.hasPrefix
     cases hc:List.isPrefixOf p.data.toList x.data.toList with
     | false=>rfl
     | true=>
      have:=(List.isPrefixOf_iff_prefix.1 hc).length_le
      simp at this
      omega
    have Kb:=hid hpf';clear hpf'
    have HO:=hid hown;clear hown
    go_wp2
    go_roundw
    case rel=>exact ⟨k+1,by omega,by go_num,⟨m,by omega,by rw [Kc.out,Kb.out];simpa using HO.out⟩,Ka.out⟩
    case measure=>simp [intOf];omega
   ·have hex:=extract_pre (x:=x) (p:=p) (by omega)
    cases hpf:hasPre p x
    ·rw [hpf] at hex
     have Kb:=hid hpf
     have HO:=hid hown;clear hown hpf
     go_wp2
     go_roundw
     case rel=>exact ⟨k+1,by omega,by go_num,⟨m,by omega,by rw [Kc.out,Kb.out];simpa using HO.out⟩,Ka.out⟩
     case measure=>simp [intOf];omega
    ·rw [hpf] at hex
     have Kb:=hid hpf
     clear hpf
     go_wp2_with (at_builtin;refine wpList_append_own _ rfl _ _ 73 rfl w.heap.size 9 i0 (.string ByteArray.empty) 1 16 Tryz.underlying73 hi hz0 hz1 hz2 rfl (by decide) _ _ _ rfl (hown.alloc _) ⟨_,0,none⟩ 1 1 [.string x] rfl rfl ?c1 ?c2 ?c3 ?c4 ?c5 ?_)
     case c1=>
      intro j u hj
      match j,hj with
      | 0,hj=>simp at hj;subst hj;simp [Addr.add]
     case c2=>intro u hu;simp at hu;subst hu;rfl
     case c3=>unfold maxLen;omega
     case c4=>omega
     case c5=>simp;omega
     intro v' w3 hown3 hg3 _
     have hup3:Upd (fun _=>False) w w3:=(Ka.out.alloc _).grown hg3 (fun b hb hlt=>by have:=(hown.lt b hb).1;omega)
     have hown4:w3.ownsRow w.heap.size 9 1 v' (m+1) ((((r.F.map (·.name)).take (k+1)).filter (hasPre p)).map Value.string):=by
      rw [Kc.out,Kb.out];simpa using hown3
     have H1:=hid hup3;have H2:=hid hown4
     clear hup3 hown4 hown3 hg3 hown
     go_wp2
     go_roundw
     case rel=>exact ⟨k+1,by omega,by go_num,⟨m+1,by omega,H2.out⟩,H1.out⟩
     case measure=>simp [intOf];omega
  ·obtain rfl:k=r.F.length:=by omega
   have hfin:((r.F.map (·.name)).take r.F.length).filter (hasPre p)=listR r.F p:=by rw [List.take_of_length_le (by simp)];rfl
   rw [hfin] at hown
   have H1:=hid hown
   clear hown hfin
   go_wp2
   go_ret
   exact ⟨_,m,rfl,H1.out,Ka.out⟩
end Go.Proofs.YtgaidmohdhaonaaGreatDoor
