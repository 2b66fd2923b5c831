/-
  Package strataref4, walked: Crash.
-/
import Derived.Test.YtgaidmohdhaonaaGreatDoorRG
import Derived.StillTailTactics
set_option linter.unusedVariables false
set_option linter.unusedSimpArgs false
set_option linter.unnecessarySimpa false
set_option linter.unusedSectionVars false
set_option maxRecDepth 100000
set_option maxHeartbeats 6400000
namespace Go.Proofs.YtgaidmohdhaonaaGreatDoor
open Go Go.RowKit
theorem crashL_append (cuts:List Int):∀(a b:List FileA) (k:Nat),crashL cuts (a++b) k=((crashL cuts a k).1++(crashL cuts b (crashL cuts a k).2).1,(crashL cuts b (crashL cuts a k).2).2)
 | [],b,k=>rfl
 | f :: t,b,k=>by
  show ((crashOne cuts f k).1 :: (crashL cuts (t++b) (crashOne cuts f k).2).1,(crashL cuts (t++b) (crashOne cuts f k).2).2)=_
  rw [crashL_append cuts t b]
  rfl
theorem crashL_snoc (cuts:List Int) {l:List FileA} {k:Nat} (hk:k<l.length):crashL cuts (l.take (k+1)) 0=((crashL cuts (l.take k) 0).1 ++ [(crashOne cuts l[k] (crashL cuts (l.take k) 0).2).1],(crashOne cuts l[k] (crashL cuts (l.take k) 0).2).2):=by
 rw [List.take_succ_eq_append_getElem hk,crashL_append]
 rfl
theorem set_middle {α:Type} (A:List α) (x y:α) (B:List α):(A++x :: B).set A.length y=A++y :: B:=by simp
theorem RS.In.cut1 {w w1:World} {r:RS} (h:r.In w) {g cap k y:Nat} (hfv:r.fv=.slice (some ⟨g,0,none⟩) r.F.length cap) (hk:k<r.F.length) (hy1:r.F[k].synced≤y) (hy2:y≤r.F[k].data.length)
  (hu:Upd (fun _=>False) (w.setCell ⟨g,k*3+2,none⟩ (.int .i64 y)) w1) {dv':Value} (hd:DataIs w1 dv' (r.F[k].data.take y)) (hdo:∀b,dv'.ownBlock=some b→w.heap.size≤b) :
  RStep w (w1.setCell ⟨g,k*3+1,none⟩ dv') r { r with F:=r.F.set k ⟨r.F[k].name,dv',r.F[k].data.take y,y⟩ }:=by
 have h1:=h.setSync hfv hk hy2
 have hk2:k<(r.F.set k { r.F[k] with synced:=y }).length:=by simpa using hk
 have e0:(r.F.set k { r.F[k] with synced:=y })[k] = { r.F[k] with synced:=y }:=by simp
 have hus:usedR (r.F.set k { r.F[k] with synced:=y })=usedR r.F:=by
  have h2:usedR (r.F.set k { r.F[k] with synced:=y })+r.F[k].data.length=usedR r.F+r.F[k].data.length:=usedR_set hk { r.F[k] with synced:=y }
  exact Nat.add_right_cancel h2
 have h2:=h1.ins.setData (k:=k) (dv':=dv') (data':=r.F[k].data.take y) (w1:=w1) (g:=g) (cap:=cap) (by show r.fv=_;rw [hfv];simp) hk2 (hu.mono (fun _ _ h=>h.elim)) hd (fun b hb=>.inr (by have:=hdo b hb;simpa using this)) (by
   show usedR (r.F.set k { r.F[k] with synced:=y })+_≤r.room+((r.F.set k { r.F[k] with synced:=y })[k]).data.length
   rw [hus,e0]
   have:=h.room
   simp only [List.length_take]
   omega) (by
   show ((r.F.set k { r.F[k] with synced:=y })[k]).synced≤_
   rw [e0]
   simp only [List.length_take]
   omega)
 have h3:=h1.trans h2
 have e1:(r.F.set k { r.F[k] with synced:=y }).set k ⟨((r.F.set k { r.F[k] with synced:=y })[k]).name,dv',r.F[k].data.take y,((r.F.set k { r.F[k] with synced:=y })[k]).synced⟩=r.F.set k ⟨r.F[k].name,dv',r.F[k].data.take y,y⟩:=by
  rw [List.set_set,e0]
 rw [←e1]
 exact h3
theorem refCrash_any {w:World} {r:RS} (hr:r.In w) (hso:Sorted r.F) {cv:Value} {cuts:List Int} (hcv:IntsAt w cv cuts) (hout:∀a l c,cv=.slice (some a) l c→0<l→¬r.own a.block∧a.block<w.heap.size) :
  Calls Tryz.prog 117 #[.pointer (some ⟨r.p,0,none⟩),cv] w fun e w'=>
   e=.returned (.int .i64 (crashL cuts r.abs.files 0).2)∧∃r2,RStep w w' r r2∧r2.abs = { r.abs with files:=(crashL cuts r.abs.files 0).1,down:=false,armed:=0 }∧Sorted r2.F:=by
 have HR:=hid hr
 obtain ⟨cao,ccap,rfl,hcl,hcc⟩:=hcv
 have Kw:=hid hcc;have Kq:=hid hout
 obtain ⟨ao,cap,hfv,hcap,hat⟩:=hr.at
 have hct:=hr.count
 have hp:=hr.plt
 have Kb:=hid hfv
 clear hr hcc hout hat hfv
 obtain ⟨FA,hFA⟩:∃FA,FA=r.F.map FV.abs:=⟨_,rfl⟩
 have hlenA:FA.length=r.F.length:=by rw [hFA];simp
 have Kx:=hid hFA;have Kc:=hid hlenA
 have hgoal:r.abs.files=FA:=hFA.symm
 rw [hgoal]
 clear hFA hlenA hgoal
 go_enter Tryz.func117,Tryz.ntmps117
 go_wp2
 go_loopw [5,6] (fun tv i wr=>∃k:Nat,k≤r.F.length∧i=.int .i64 k∧∃(F':List FV) (t:Nat),t≤k∧tv=.int .i64 t∧RStep w wr r { r with F:=F' }∧F'.length=r.F.length∧F'.map (·.name)=r.F.map (·.name)∧
   F'.map FV.abs=(crashL cuts (FA.take k) 0).1++FA.drop k∧t=(crashL cuts (FA.take k) 0).2) (fun _ i _=>r.F.length-(intOf i).toNat)
 case atStart=>exact ⟨0,Nat.zero_le _,rfl,r.F,0,Nat.le_refl _,rfl,RStep.refl HR.out,rfl,rfl,by simp [crashL,Kx.out],by simp [crashL]⟩
 case round=>
  obtain ⟨k,hk,rfl,F',t,htk,rfl,hst,hlF,hnm,habs,hteq⟩:=hrel
  have Ka:=hid hst;have Kk:=hid habs;have Kd:=hid hteq;have Kl:=hid hnm;have Ke:=hid hlF
  have c1:=hst.ins.c_f
  rw [show ({ r with F:=F' } : RS).fv=r.fv from rfl,Kb.out] at c1
  have f2:wr.frozen? ⟨r.p,2,none⟩=false:=hst.ins.free 2
  have f3:wr.frozen? ⟨r.p,3,none⟩=false:=hst.ins.free 3
  have c2:wr.cell? ⟨r.p,2,none⟩=some (.bool r.off):=hst.ins.c_off
  have c3:wr.cell? ⟨r.p,3,none⟩=some (.int .i64 r.armed):=hst.ins.c_armed
  have hpr:r.p<wr.heap.size:=hst.ins.plt
  clear hst habs hteq hnm hlF
  by_cases hlt:k<r.F.length
  ·have hltF:k<F'.length:=by have:=Ke.out;omega
   have hltA:k<FA.length:=by have:=Kc.out;omega
   obtain ⟨ao2,cap2,hfv2,-,hat⟩:=Ka.out.ins.at
   have e2:ao2=ao∧cap2=cap:=by
    have h1:r.fv=.slice ao2 F'.length cap2:=hfv2
    rw [Kb.out] at h1
    injection h1 with a1 a2 a3
    exact ⟨a1.symm,a3.symm⟩
   obtain ⟨rfl,rfl⟩:=e2
   obtain ⟨g,rfl,hg,hgp,d0,d1,d2⟩:=hat k hltF
   have hgp':g≠r.p:=hgp
   have hmem:F'[k]∈F':=List.getElem_mem hltF
   have hdat:=Ka.out.ins.files.data F'[k] hmem
   obtain ⟨p1,q1,hdv,hlq,hm,hnone,hsome⟩:=hdat.shape
   have hm':q1≤9223372036854775807:=by simpa [maxLen] using hm
   have hle:F'[k].synced≤F'[k].data.length:=Ka.out.ins.synced _ hmem
   have hsm:F'[k].data.length≤67108864:=Ka.out.ins.small hltF
   have hcl1:(crashL cuts (FA.take k) 0).1.length=k:=by rw [crashL_length];simp;omega
   have hel:F'[k].abs=FA[k]:=by
    have h1:=congrArg (fun l=>l[k]?) Kk.out
    simp only [List.getElem?_map,List.getElem?_eq_getElem hltF,Option.map_some] at h1
    rw [List.getElem?_append_right (by omega),hcl1,Nat.sub_self,List.getElem?_drop,Nat.add_zero,List.getElem?_eq_getElem hltA] at h1
    exact Option.some.inj h1
   have hsn:=crashL_snoc cuts hltA
   rw [←Kd.out,←hel] at hsn
   have hdrop:FA.drop k=F'[k].abs :: FA.drop (k+1):=by rw [hel];exact List.drop_eq_getElem_cons hltA
   have hset:∀y:FV,(F'.set k y).map FV.abs=((crashL cuts (FA.take k) 0).1 ++ [y.abs])++FA.drop (k+1):=by
    intro y
    rw [map_set_abs,Kk.out,hdrop]
    have:=set_middle (crashL cuts (FA.take k) 0).1 F'[k].abs y.abs (FA.drop (k+1))
    rw [hcl1] at this
    rw [this];simp
   have fg1:wr.frozen? ⟨g,k*3+1,none⟩=false∧wr.frozen? ⟨g,k*3+2,none⟩=false:=by
    rcases Ka.out.ins.files.row.2 with ⟨e,hz⟩|⟨g',cap',cur,e,-,hg',-⟩
    ·have h0:F'.length=0:=hz
     omega
    ·have h1:r.fv=.slice (some ⟨g',0,none⟩) F'.length cap':=e
     rw [Kb.out] at h1
     injection h1 with a1 _ _;injection a1 with a1;injection a1 with a1;subst a1
     exact ⟨frozen_of_row _ _ _ _ _ hg',frozen_of_row _ _ _ _ _ hg'⟩
   obtain ⟨fg1,fg2⟩:=fg1
   have hnp:∀b,F'[k].dv.ownBlock=some b→b≠r.p:=fun b hb e=>Ka.out.ins.apart (.inr (mem_fvBlocks.2 ⟨_,hmem,by rw [hb,e]⟩))
   have hng:∀b,F'[k].dv.ownBlock=some b→b≠g:=fun b hb e=>(List.nodup_append.1 Ka.out.ins.files.nodup).2.2 g (by show g∈r.fv.ownBlock.toList;rw [Kb.out];simp [Value.ownBlock]) b (mem_fvBlocks.2 ⟨_,hmem,hb⟩) e.symm
   have hdv1:wr.cell? ⟨g,k*3+1,none⟩=some (.slice p1 F'[k].data.length q1):=by rw [←hdv];exact d1
   have d2':wr.cell? ⟨g,k*3+2,none⟩=some (.int .i64 F'[k].synced):=d2
   have Kt:=hid hsn;have Kf:=hid hset;have Km:=hid hdv;have Zg:=hid hnp;have Ky:=hid hng;have Kg:=hid hdat;have Kh:=hid hnone;have Ki:=hid hsome
   obtain ⟨Y,hY⟩:∃Y,Y=F'[k].synced:=⟨_,rfl⟩
   obtain ⟨L,hL⟩:∃L,L=F'[k].data.length:=⟨_,rfl⟩
   rw [←hY] at d2' hle
   rw [←hL] at hdv1 hle hsm hlq Km
   have HY:=hid hY;have HL:=hid hL
   have HG:=hid hg
   have hgr:g<wr.heap.size:=hg
   clear hsn hset hdv hnp hng hdat hnone hsome hY hL hel hdrop hcl1 hmem hm hfv2 hat d0 d1 d2 hg hgp
   by_cases htl:L≤Y
   ·have hq:(((L:Int)-(Y:Int))==0)=true:=by simp;omega
    have hco:crashOne cuts F'[k].abs t=(F'[k].abs,t):=by
     unfold crashOne
     rw [if_pos (by show F'[k].data.length≤F'[k].synced;rw [←HL.out,←HY.out];exact htl)]
    have hs2:=Kt.out
    rw [hco] at hs2
    have hs3:=Kf.out F'[k]
    rw [List.set_getElem_self] at hs3
    have H2:=hid hs2;have H3:=hid hs3
    clear hco hs2 hs3 htl
    go_wp2_with fail
    go_quiet (fail)
    go_wp2
    go_roundw
    case rel=>exact ⟨k+1,by omega,by go_num,F',t,by omega,rfl,Ka.out.trans (RStep.of_upd Ka.out.ins ((Upd.refl _ _).drewN _)),Ke.out,Kl.out,by rw [H3.out,H2.out],by rw [H2.out]⟩
    case measure=>simp [intOf];omega
   ·have hq:(((L:Int)-(Y:Int))==0)=false:=by simp;omega
    obtain ⟨kp,hkp⟩:∃kp,kp=keepOf cuts t (L-Y):=⟨_,rfl⟩
    have hkl2:kp≤L-Y:=by rw [hkp];exact keepOf_le _ _ _
    have hco:crashOne cuts F'[k].abs t=(⟨F'[k].name,F'[k].data.take (Y+kp),Y+kp⟩,t+1):=by
     unfold crashOne
     rw [if_neg (by show ¬F'[k].data.length≤F'[k].synced;rw [←HL.out,←HY.out];exact htl)]
     show (({ F'[k].abs with synced:=F'[k].synced+keepOf cuts t (F'[k].data.length-F'[k].synced),data:=F'[k].data.take (F'[k].synced+keepOf cuts t (F'[k].data.length-F'[k].synced)) } : FileA),t+1)=_
     rw [←HL.out,←HY.out,←hkp]
     rfl
    have hs2:=Kt.out
    rw [hco] at hs2
    have H2:=hid hs2;have Kz:=hid hkp
    have hYk:Y+kp≤L:=by omega
    have hYq:Y+kp≤q1:=by omega
    clear hco hs2 hkp
    have hpz:∃gd,p1=some ⟨gd,0,none⟩:=by
     cases p1 with
     | none=>have h0:=(Kh.out rfl).1;have:=HL.out;rw [h0] at this;simp at this;omega
     | some ad=>
      obtain ⟨z1,z2,-,-⟩:=Ki.out ad rfl
      obtain ⟨gd,od,spd⟩:=ad
      simp only at z1 z2
      subst z1 z2
      exact ⟨gd,rfl⟩
    obtain ⟨gd,rfl⟩:=hpz
    have Za:=hid (show t<cuts.length→∃cb co,cao=some ⟨cb,co,none⟩∧cb<wr.heap.size∧wr.cell? ⟨cb,co+t,none⟩=some (.int .i64 (cuts.getD t 0)) from fun htc=>by
     obtain ⟨ca,hca,hcs,hcx⟩:=Kw.out t htc
     subst hca
     obtain ⟨o1,o2⟩:=Kq.out ca _ _ rfl (by omega)
     obtain ⟨cb,co,cs⟩:=ca
     simp only at hcs o1 o2 hcx
     subst hcs
     refine ⟨cb,co,rfl,Nat.lt_of_lt_of_le o2 Ka.out.upd.size,?_⟩
     rw [World.cell?_of_block (w:=w) (a:=⟨cb,co+t,none⟩) (Ka.out.upd.block cb o2 o1),hcx t htc,List.getD_eq_getElem?_getD,List.getElem?_eq_getElem htc,Option.getD_some])
    go_wp2_with fail
    go_quiet (fail)
    revert nq
    intro q
    have Kn:=hid (Ka.out.trans (RStep.of_upd Ka.out.ins ((Upd.refl (fun _=>False) wr).drewN q)))
    obtain ⟨wq,hwq⟩:∃wq,wq=wr.drewN q:=⟨_,rfl⟩
    have q1':wq.cell? ⟨r.p,1,none⟩=some (.slice (some ⟨g,0,none⟩) r.F.length cap2):=by rw [hwq];exact c1
    have q2':wq.cell? ⟨g,k*3+1,none⟩=some (.slice (some ⟨gd,0,none⟩) L q1):=by rw [hwq];exact hdv1
    have q3':wq.cell? ⟨g,k*3+2,none⟩=some (.int .i64 Y):=by rw [hwq];exact d2'
    have q4':wq.frozen? ⟨g,k*3+1,none⟩=false:=by rw [hwq];exact fg1
    have q5':wq.frozen? ⟨g,k*3+2,none⟩=false:=by rw [hwq];exact fg2
    have q7':g<wq.heap.size:=by rw [hwq];exact hgr
    have q8':r.p<wq.heap.size:=by rw [hwq];exact hpr
    have Kj:=hid (show t<cuts.length→∃cb co,cao=some ⟨cb,co,none⟩∧cb<wq.heap.size∧wq.cell? ⟨cb,co+t,none⟩=some (.int .i64 (cuts.getD t 0)) by rw [hwq];exact Za.out)
    have Zb:=hid (show Upd (fun b=>b=g) wr wq by rw [hwq];exact (Upd.refl _ _).drewN q)
    rw [←hwq] at Kn⊢
    clear hwq c1 hdv1 d2' fg1 fg2 hgr hpr f2 f3 c2 c3 Za htl
    go_upto_region 8 with fail
    go_cut [48] (fun b wx=>b=.bool (decide (t<cuts.length∧0<cuts.getD t 0))∧wx=wq)
    case first=>
     by_cases htc:t<cuts.length
     ·obtain ⟨cb,co,rfl,hcb,hcc⟩:=Kj.out htc
      obtain ⟨ct,hct2⟩:∃ct,ct=cuts.getD t 0:=⟨_,rfl⟩
      rw [←hct2] at hcc
      have hdd:decide (t<cuts.length∧0<cuts.getD t 0)=decide (0<ct):=by rw [←hct2,decide_eq_decide];exact ⟨fun h=>h.2,fun h=>⟨htc,h⟩⟩
      have Ku:=hid hdd
      clear hct2 hdd
      go_wp2
      go_meet
      case rel=>exact ⟨by rw [Ku.out],rfl⟩
     ·have htc':¬((t:Int)<(cuts.length:Int)):=by omega
      have hdd:decide (t<cuts.length∧0<cuts.getD t 0)=false:=by rw [decide_eq_false_iff_not];exact fun h=>htc h.1
      have Ku:=hid hdd
      clear hdd
      go_wp2
      go_meet
      case rel=>exact ⟨by rw [Ku.out],rfl⟩
    case rest=>
    obtain ⟨rfl,hwc⟩:=hcut
    obtain rfl:=hwc.symm
    obtain ⟨n0,hn0⟩:∃n0:Int,n0=if t<cuts.length∧0<cuts.getD t 0 then cuts.getD t 0 else 0:=⟨_,rfl⟩
    have Ko:=hid hn0
    clear hn0
    go_upto_if 48 with fail
    go_cut [8] (fun v wx=>v=.int .i64 n0∧wx=wq)
    case first=>
     by_cases hb:t<cuts.length∧0<cuts.getD t 0
     ·obtain ⟨cb,co,rfl,hcb,hcc⟩:=Kj.out hb.1
      have hn1:=Ko.out
      rw [if_pos hb] at hn1
      rw [←hn1] at hcc
      have htc:=hb.1
      rw [decide_eq_true hb]
      clear hb hn1
      go_wp2
      go_meet
      case rel=>exact ⟨rfl,rfl⟩
     ·have hn1:=Ko.out
      rw [if_neg hb] at hn1
      subst hn1
      rw [decide_eq_false hb]
      clear hb
      go_wp2
      go_meet
      case rel=>exact ⟨rfl,rfl⟩
    case rest=>
    obtain ⟨rfl,hwc⟩:=hcut
    obtain rfl:=hwc.symm
    have hkn:(kp:Int)=if (L:Int)-(Y:Int)<n0 then (L:Int)-(Y:Int) else n0:=by
     have h1:=Kz.out
     have h2:=Ko.out
     unfold keepOf at h1
     by_cases hb:t<cuts.length
     ·rw [if_pos hb] at h1
      by_cases hp0:0<cuts.getD t 0
      ·rw [if_pos ⟨hb,hp0⟩] at h2
       split<;>omega
      ·rw [if_neg (fun h=>hp0 h.2)] at h2
       split<;>omega
     ·rw [if_neg hb] at h1
      rw [if_neg (fun h=>hb h.1)] at h2
      split<;>omega
    have Zc:=hid hkn
    clear hkn
    go_upto_if 55 with fail
    go_cut [8] (fun v wx=>v=.int .i64 (kp:Int)∧wx=wq)
    case first=>
     have hkn:=Zc.out
     by_cases hb:(L:Int)-(Y:Int)<n0
     ·rw [if_pos hb] at hkn
      have Kv:=hid hkn
      clear hkn
      go_wp2
      go_meet
      case rel=>exact ⟨by rw [Kv.out],rfl⟩
     ·rw [if_neg hb] at hkn
      have Kv:=hid hkn
      clear hkn
      go_wp2
      go_meet
      case rel=>exact ⟨by rw [Kv.out],rfl⟩
    case rest=>
    obtain ⟨rfl,hwc⟩:=hcut
    obtain rfl:=hwc.symm
    go_wp2_with fail
    go_region
    obtain ⟨w3,hw3⟩:∃w3,w3=(wq.setCell ⟨g,k*3+2,none⟩ (.int .i64 ((Y:Int)+(kp:Int)))).drew:=⟨_,rfl⟩
    rw [←hw3]
    have r1':w3.cell? ⟨r.p,1,none⟩=some (.slice (some ⟨g,0,none⟩) r.F.length cap2):=by rw [hw3];simp [go_sem,q1',hgp',hgp'.symm]
    have r2':w3.cell? ⟨g,k*3+1,none⟩=some (.slice (some ⟨gd,0,none⟩) L q1):=by rw [hw3];simp [go_sem,q2']
    have r3':w3.cell? ⟨g,k*3+2,none⟩=some (.int .i64 ((Y:Int)+(kp:Int))):=by rw [hw3];simp [go_sem,q3',q7']
    have r4':w3.frozen? ⟨g,k*3+1,none⟩=false:=by rw [hw3];simp [go_sem,q4']
    have hq3:w3.heap.size=wq.heap.size:=by rw [hw3];simp
    obtain ⟨y,hy⟩:∃y,y=Y+kp:=⟨_,rfl⟩
    have hyE:(y:Int)=(Y:Int)+(kp:Int):=by omega
    have hyq:y≤q1:=by omega
    have hyq2:(y:Int)≤(q1:Int):=by omega
    have hy31:y≤67108864:=by omega
    have Kp:=hid hy
    rw [←hyE] at r3'
    have Zd:=hid (show Upd (fun _=>False) (wq.setCell ⟨g,k*3+2,none⟩ (.int .i64 (y:Int))) w3.drew by rw [hyE,hw3];exact ((Upd.refl _ _).drew).drew)
    have Ze:=hid (show BytesAt w3.drew (.slice (some ⟨gd,0,none⟩) y q1) (F'[k].data.take y) from by
     have h1:BytesAt wr (.slice (some ⟨gd,0,none⟩) F'[k].data.length q1) F'[k].data:=by rw [←HL.out,←Km.out];exact Kg.out.bytes
     have h2:=h1.take (n:=y) (by rw [←HL.out];omega) q1 (fun h=>by cases h)
     refine h2.upd (S:=fun b=>b=g) ?_ (fun a l c e _=>?_)
     ·rw [hw3];exact ((Zb.out.setCell (p:=⟨g,k*3+2,none⟩) (fun _=>rfl) _).drew).drew
     ·injection e with e1 _ _;injection e1 with e1;subst e1
      have hb:F'[k].dv.ownBlock=some gd:=by rw [Km.out];rfl
      exact ⟨Ky.out gd hb,(Kg.out.lt gd hb)⟩)
    have Zf:=hid (show wq.heap.size≤w3.drew.heap.size from Nat.le_of_eq hq3.symm)
    have hg3:g<w3.heap.size:=by omega
    have hp3:r.p<w3.heap.size:=by omega
    have hcop:Calls Tryz.prog 123 #[.slice (some ⟨gd,0,none⟩) y q1] w3.drew fun e w4=>∃a4 N4 c4,e=.returned (.slice a4 N4 c4)∧w4.cell? ⟨r.p,1,none⟩=some (.slice (some ⟨g,0,none⟩) r.F.length cap2)∧w4.cell? ⟨g,k*3+1,none⟩=some (.slice (some ⟨gd,0,none⟩) L q1)∧w4.frozen? ⟨g,k*3+1,none⟩=false∧g<w4.heap.size∧
      Hid (RStep w (w4.setCell ⟨g,k*3+1,none⟩ (.slice a4 N4 c4)) r { r with F:=F'.set k ⟨F'[k].name,.slice a4 N4 c4,F'[k].data.take y,y⟩ }):=by
     refine (refCopied_any (w:=w3.drew) Ze.out (by simp;omega)).mono ?_
     rintro e w4 ⟨vc,rfl,hd,hdo,hbel⟩
     obtain ⟨aoc,capc,hsh,-,-,-,-⟩:=hd.shape
     have hcut:=Kn.out.ins.cut1 (g:=g) (cap:=cap2) (k:=k) (y:=y) (show r.fv=.slice (some ⟨g,0,none⟩) F'.length cap2 by rw [Kb.out,Ke.out]) hltF (by show F'[k].synced≤y;rw [←HY.out,Kp.out];omega) (by show y≤F'[k].data.length;rw [←HL.out,Kp.out];exact hYk) (Zd.out.trans hbel (fun _ _ h=>h)) hd (fun b hb=>Nat.le_trans Zf.out (hdo b hb))
     refine ⟨aoc,(F'[k].data.take y).length,capc,by rw [hsh],?_,?_,?_,Nat.lt_of_lt_of_le hg3 hbel.size,hid ?_⟩
     ·exact (World.cell?_of_block (a:=⟨r.p,1,none⟩) (hbel.block r.p hp3 (fun h=>h))).trans r1'
     ·exact (World.cell?_of_block (a:=⟨g,k*3+1,none⟩) (hbel.block g hg3 (fun h=>h))).trans r2'
     ·exact (World.frozen?_of_block (a:=⟨g,k*3+1,none⟩) (hbel.block g hg3 (fun h=>h))).trans r4'
     ·rw [←hsh]
      exact Kn.out.trans hcut
    have Kr:=hid hcop
    have Ks:=hid (show ∀(w5:World) (f5:FV),RStep w w5 r { r with F:=F'.set k f5 }→f5.name=F'[k].name→f5.data=F'[k].data.take y→f5.synced=y→
      ∃k2:Nat,k2≤r.F.length∧Value.int .i64 ((k:Int)+1)=.int .i64 (k2:Int)∧∃(F2:List FV) (t2:Nat),t2≤k2∧Value.int .i64 ((t:Int)+1)=.int .i64 (t2:Int)∧RStep w w5 r { r with F:=F2 }∧F2.length=r.F.length∧F2.map (·.name)=r.F.map (·.name)∧
       F2.map FV.abs=(crashL cuts (FA.take k2) 0).1++FA.drop k2∧t2=(crashL cuts (FA.take k2) 0).2 from by
     intro w5 f5 h1 h2 h3 h4
     refine ⟨k+1,by omega,by go_num,_,t+1,by omega,by go_num,h1,by rw [List.length_set];exact Ke.out,(set_name F' hltF h2).trans Kl.out,?_,by rw [H2.out]⟩
     rw [Kf.out f5,H2.out]
     show _=(_ ++ [(⟨F'[k].name,F'[k].data.take (Y+kp),Y+kp⟩:FileA)])++_
     rw [←Kp.out]
     have:f5.abs=⟨F'[k].name,F'[k].data.take y,y⟩:=by unfold FV.abs;rw [h2,h3,h4]
     rw [this])
    obtain ⟨Fn,hFn⟩:∃Fn,Fn=F'[k].name:=⟨_,rfl⟩
    obtain ⟨Fd,hFd⟩:∃Fd,Fd=F'[k].data.take y:=⟨_,rfl⟩
    rw [←hFn,←hFd] at Kr Ks
    clear hFn hFd hw3 q1' q2' q3' q4' q5' hq3 hyE hy hcop Ze Zd Zf Kp Zc Ko Kj Zb Kn H2 Kz HL HY Kt Kf Km Zg Ky Kg Kh Ki Ka Kk Kd Kl Ke Kw Kq HR Kb Kx Kc
    go_wp2_with fail
    go_region_law ((go_simp;go_at_call 123;refine Kr.out.mono ?_;rintro e w4 ⟨a4,N4,c4,rfl,t1,t2,t4,t5,t6⟩))
    all_goals
     go_wp2
     go_roundw
     case rel=>exact Ks.out _ _ t6.out rfl rfl rfl
     case measure=>simp [intOf];omega
  ·obtain rfl:k=r.F.length:=by omega
   have hfin:(crashL cuts (FA.take r.F.length) 0).1++FA.drop r.F.length=(crashL cuts FA 0).1:=by rw [List.take_of_length_le (by rw [Kc.out];exact Nat.le_refl _),List.drop_of_length_le (by rw [Kc.out];exact Nat.le_refl _),List.append_nil]
   have hfin2:t=(crashL cuts FA 0).2:=by rw [Kd.out,List.take_of_length_le (by rw [Kc.out];exact Nat.le_refl _)]
   have hst2:RStep wr ((wr.setCell ⟨r.p,2,none⟩ (.bool false)).setCell ⟨r.p,3,none⟩ (.int .i64 0)) { r with F:=F' } { r with F:=F',off:=false,armed:=0 }:=
    Ka.out.ins.turned ((Upd.cell_only _ _ _ _).setCell (p:=⟨r.p,3,none⟩) (fun _=>rfl) _) rfl rfl rfl rfl rfl (heap_setCell_at _ _ _ _ _ _ (heap_setCell_at _ _ _ _ _ _ Ka.out.ins.top)) (show (0:Int)≤0∧(0:Int)≤9223372036854775807 by decide)
   have H1:=hid hfin;have H2:=hid hfin2;have H3:=hid hst2
   clear hfin hfin2 hst2
   go_wp2
   go_ret
   refine ⟨by rw [H2.out];rfl,_,Ka.out.trans H3.out,?_,sorted_names hso Kl.out⟩
   show (⟨r.room,F'.map FV.abs,false,0,r.cnt⟩:DiskA)=_
   rw [Kk.out,H1.out]
   rfl
end Go.Proofs.YtgaidmohdhaonaaGreatDoor
