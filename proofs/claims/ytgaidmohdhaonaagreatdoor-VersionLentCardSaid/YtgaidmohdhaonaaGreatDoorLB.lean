/-
  Package stratalaw1's Book, walked: Settle.
-/
import Derived.Test.YtgaidmohdhaonaaGreatDoorLA
set_option linter.unusedVariables false
set_option linter.unusedSimpArgs false
set_option linter.unnecessarySimpa false
set_option linter.unusedSectionVars false
set_option maxRecDepth 100000
set_option maxHeartbeats 12800000
namespace Go.Proofs.YtgaidmohdhaonaaGreatDoor
open Go Go.RowKit
def markI (i:Nat):UInt8:=UInt8.ofNat (1+i%251)
theorem markI_val (i:Nat):1+(i:Int)%251=((markI i).toNat:Int):=by
 unfold markI
 rw [UInt8.toNat_ofNat']
 omega
def MB (i:Nat):List Value:=[byteV (markI i)]
theorem settleB_any {w:World} {k:KP} (hk:k.B w) (heq:∀x∈k.ls,∃bs:List UInt8,x.xs=bs.map byteV∧x.ys=bs.map byteV) (hN:k.ls.length≤1000000) :
  Calls Tryz.prog 48 #[.pointer (some ⟨k.p,0,none⟩)] w fun e w'=>e=.returned (.bool true)∧Upd k.own w w':=by
 obtain ⟨ga,la,lc,hlv,hl1,hl2,hla,hat⟩:=hk.rowAt
 have HK:=hid hk;have Ki:=hid hla
 have Kw:=hid (untouchedB_any hk heq)
 have Km:=hid hk.short
 obtain ⟨N,hNN⟩:∃N,N=k.ls.length:=⟨_,rfl⟩
 have HN:=hid hNN
 have Ke:=hid (show ∀(S:Nat→Prop) wr,Upd S w wr→(∀q,q<w.heap.size→S q→k.vown q)→wr.cell? ⟨k.p,0,none⟩=some (.slice la N lc)∧k.p<wr.heap.size∧∀j (hj:j<k.ls.length),ga<wr.heap.size∧wr.cell? ⟨ga,j,none⟩=some k.ls[j].v from fun S wr hu hS=>by rw [hNN];exact hat S wr hu hS)
 rw [←hNN] at hl1 hN Ki
 clear hk hat hla heq hlv hNN
 go_enter Tryz.func48,Tryz.ntmps48
 go_wp2_with fail
 refine Kw.out.mono ?_
 rintro e w1 ⟨rfl,hdr⟩
 have Kx:=hid (HK.out.marked0 (M:=MB) hdr.1)
 obtain ⟨c0,hp,-⟩:=Ke.out _ _ hdr.1 (fun _ _ e=>e.elim)
 clear hdr
 go_wp2
 go_loopw [3] (fun i wr=>∃j:Nat,j≤N∧i=.int .i64 j∧Marked 5 1 w wr k MB j) (fun i _=>N-(intOf i).toNat)
 case atStart=>exact ⟨0,Nat.zero_le _,rfl,Kx.out⟩
 case round=>
  clear c0 hp
  obtain ⟨j,hj,rfl,hm⟩:=hrel
  have HM:=hid hm
  obtain ⟨c0,hp,hcell⟩:=Ke.out _ _ hm.upd (fun _ _ e=>e)
  by_cases hlt:j<N
  ·have hlt':j<k.ls.length:=by have:=HN.out;omega
   obtain rfl:=Ki.out (by omega)
   obtain ⟨hg,d0⟩:=hcell j hlt'
   have hrow:=hm.rest j hlt' (Nat.le_refl _)
   have hsh:=Km.out j hlt'
   obtain ⟨v,hv⟩:∃v,v=k.ls[j].v:=⟨_,rfl⟩
   obtain ⟨n,hn⟩:∃n,n=k.ls[j].n:=⟨_,rfl⟩
   have HV:=hid hv;have Kn:=hid hn
   rw [←hv] at d0
   rw [←hn] at hsh
   rw [←hv,←hn] at hrow
   obtain ⟨va,vc,hvs,hv1,hv2,-⟩:=SRow.slice hrow
   have Kb:=hid hvs;have Ka:=hid hrow
   rw [hvs] at d0
   clear hm hcell hrow hv hn hvs
   go_wp2
   obtain ⟨wo,rfl⟩:∃wo,wo=wr:=⟨_,rfl⟩
   go_loopw [4] (fun c wr=>∃i:Nat,i≤n∧c=.int .i64 i∧Upd (fun q=>v.ownBlock=some q) wo wr∧SRow wr 5 1 v n (rep i (MB j)++k.ls[j].xs.drop (i*1))) (fun c _=>n-(intOf c).toNat)
   case atStart=>exact ⟨0,Nat.zero_le _,rfl,Upd.refl _ _,by simpa [rep] using Ka.out⟩
   case round=>
    clear c0 hp hg d0
    obtain ⟨i,hi,rfl,hup,hrow⟩:=hrel
    have hU:Upd k.vown w wr:=HM.out.upd.trans hup (fun q _ e=>⟨j,by have:=HN.out;omega,by rw [←HV.out];exact e⟩)
    obtain ⟨c0,hp,hcell⟩:=Ke.out _ _ hU (fun _ _ e=>e)
    obtain ⟨hg,d0⟩:=hcell j hlt'
    rw [←HV.out,Kb.out] at d0
    have Ko:=hid hup;have HR:=hid hrow
    clear hup hrow hU hcell
    by_cases hlt2:i<n
    ·have hxl:k.ls[j].xs.length=n:=by have:=Ka.out.1;simpa using this
     obtain ⟨gv,cap,old,e,hset,q1,q2,q3,-,-⟩:=SRow.set (m:=i) (u:=byteV (markI j)) HR.out (by omega)
     rw [rep_set (M:=MB j) (u:=byteV (markI j)) hxl hlt2 rfl] at hset
     rw [Kb.out] at e
     injection e with e1 e2 e3
     subst e1 e3
     have Kf:=hid hset
     have hme:=markI_val j
     simp only [byteV] at Kf
     generalize markI j=m at hme Kf
     clear hset hxl
     go_wp2
     go_roundw
     case rel=>exact ⟨i+1,by omega,by go_num,Ko.out.setCell (p:=⟨gv,i,none⟩) (fun _=>by rw [Kb.out];rfl) _,Kf.out⟩
     case measure=>simp [intOf];omega
    ·obtain rfl:i=n:=by omega
     have hxl:k.ls[j].xs.length=i:=by have:=Ka.out.1;simpa using this
     have hfin:SRow wr 5 1 k.ls[j].v k.ls[j].n (rep k.ls[j].n (MB j)):=by
      have h:=HR.out
      rw [List.drop_eq_nil_of_le (by omega),List.append_nil,HV.out,Kn.out] at h
      exact h
     have HF:=hid hfin
     clear hfin hxl
     go_wp2
     go_roundw
     case rel=>exact ⟨j+1,by omega,by go_num,HM.out.step HK.out hlt' (Ko.out.mono (fun q _ e=>by rw [←HV.out];exact e)) HF.out⟩
     case measure=>simp [intOf];omega
  ·obtain rfl:j=N:=by omega
   have hgr0:Grown 22 5 1 w wr k MB 0 (.slice none 0 0) []:=by have h:=HM.out;rw [HN.out] at h;exact h.grown
   have Ky:=hid hgr0
   clear hgr0 hm hcell
   go_wp2
   go_loopw [5,6] (fun mv i wr=>∃j2:Nat,j2≤j∧i=.int .i64 j2∧∃ma mc gs,mv=.slice ma j2 mc∧Grown 22 5 1 w wr k MB j2 mv gs) (fun _ i _=>j-(intOf i).toNat)
   case atStart=>exact ⟨0,Nat.zero_le _,rfl,none,0,[],rfl,Ky.out⟩
   case round=>
    clear c0 hp
    obtain ⟨j2,hj2,rfl,ma,mc,gs,rfl,hgr⟩:=hrel
    have HG:=hid hgr
    obtain ⟨c0,hp,hcell⟩:=Ke.out _ _ hgr.upd (fun _ _ e=>e)
    by_cases hlt:j2<j
    ·have hlt':j2<k.ls.length:=by have:=HN.out;omega
     obtain rfl:=Ki.out (by omega)
     obtain ⟨hg,d0⟩:=hcell j2 hlt'
     have hrow:=hgr.rest j2 hlt' (Nat.le_refl _)
     have hsh:=Km.out j2 hlt'
     obtain ⟨v,hv⟩:∃v,v=k.ls[j2].v:=⟨_,rfl⟩
     obtain ⟨n,hn⟩:∃n,n=k.ls[j2].n:=⟨_,rfl⟩
     have HV:=hid hv;have Kn:=hid hn
     rw [←hv] at d0
     rw [←hn] at hsh
     rw [←hv,←hn] at hrow
     obtain ⟨va,vc,hvs,hv1,hv2,hz⟩:=SRow.slice hrow
     have Kb:=hid hvs;have Ka:=hid hrow;have HZ:=hid hz
     rw [hvs] at d0
     clear hgr hcell hrow hv hn hvs hz
     go_wp2
     obtain ⟨wo,rfl⟩:∃wo,wo=wr:=⟨_,rfl⟩
     go_loopw [7] (fun gvv wr=>∃L:Nat,n≤L∧L≤2*n+70∧∃gao gcap,gvv=.slice gao L gcap∧SRow wr 5 1 (.slice gao L gcap) L (rep L (MB j2))∧FullG wr (.slice va n vc) (MB j2)∧Upd (fun q=>v.ownBlock=some q) wo wr∧∀q,(Value.slice gao L gcap).ownBlock=some q→v.ownBlock=some q∨wo.heap.size≤q) (fun gvv _=>2*n+70-lenOf gvv)
     case atStart=>exact ⟨n,Nat.le_refl _,by omega,va,vc,rfl,by rw [←Kb.out];exact Ka.out,by rw [←Kb.out];exact FullG.of_owns Ka.out (by simp [MB]),Upd.refl _ _,fun q e=>.inl (by rw [Kb.out];exact e)⟩
     case round=>
      obtain ⟨L,hL1,hL2,gao,gcap,rfl,hd,hf,hup,hown⟩:=hrel
      have Kj:=hid hd;have Kp:=hid hf;have Kd:=hid hup;have Kc:=hid hown
      clear hd hf hup hown
      by_cases hlt2:L<2*n+70
      ·obtain ⟨gv3,w3,hrun3,hd3,hf3,hu3,ha3⟩:=rowBytes.grow (M:=MB j2) rfl (fun u hu=>by simp [MB] at hu;subst hu;rfl) Kj.out Kp.out HZ.out hL1 (by omega) 22
       obtain ⟨gao3,gcap3,hgs3,-,-,-⟩:=SRow.slice hd3
       have hup3:Upd (fun q=>v.ownBlock=some q) wo w3:=Kd.out.trans hu3 (fun q hq e=>(Kc.out q e).resolve_right (by omega))
       have hown3:∀q,gv3.ownBlock=some q→v.ownBlock=some q∨wo.heap.size≤q:=fun q e=>(ha3 q e).elim (Kc.out q) (fun h=>.inr (Nat.le_trans Kd.out.size h))
       rw [hgs3] at hrun3 hd3 hown3
       have hme:=markI_val j2
       have hrun3':(Builtin.append_ #[22,22] 22 #[.slice gao L gcap,.slice (some ⟨wr.heap.size,0,none⟩) 1 1]).run Tryz.prog (wr.alloc (.cells #[.int .u8 ((markI j2).toNat:Int)] 5))=.ok (.slice gao3 (L+1) gcap3) w3:=hrun3
       have Kq:=hid hrun3';have Kz:=hid hd3;have Za:=hid hf3;have Kr:=hid hup3;have Kk:=hid hown3
       generalize markI j2=m at hme Kq
       clear hrun3 hrun3' hd3 hf3 hup3 hown3 hu3 ha3 hgs3
       have hlt3:(L:Int)<2*(n:Int)+70:=by omega
       go_wp2_with (at_builtin;refine wpList_append_run rfl _ _ _ rfl rfl rfl Kq.out ?_)
       go_roundw
       case rel=>exact ⟨L+1,by omega,by omega,gao3,gcap3,rfl,Kz.out,Za.out,Kr.out,Kk.out⟩
       case measure=>simp [lenOf];omega
      ·obtain rfl:L=2*n+70:=by omega
       have hnl:¬((2*n+70:Nat):Int)<2*(n:Int)+70:=by omega
       have hrm:SRow wr 22 1 (.slice ma j2 mc) j2 gs:=SRow.upd HG.out.row Kd.out (fun q e1 e2=>by
        have h1:=HG.out.new q e1
        have h2:=HK.out.lt ⟨_,KP.oV hlt' (by rw [←HV.out];exact e2)⟩
        omega)
       obtain ⟨mv',w4,hrun4,r4,u4,o4,-⟩:=rowLists.push (M:=[.slice gao (2*n+70) gcap]) hrm rfl (fun x hx=>by simp at hx;subst hx;rfl) (by omega) 43
       obtain ⟨ma4,mc4,hms4,-,-,-⟩:=SRow.slice r4
       rw [hms4] at hrun4 r4 o4
       have hrun4':(Builtin.append_ #[43,43] 43 #[.slice ma j2 mc,.slice (some ⟨wr.heap.size,0,none⟩) 1 1]).run Tryz.prog (wr.alloc (.cells #[.slice gao (2*n+70) gcap] 22))=.ok (.slice ma4 (j2+1) mc4) w4:=hrun4
       have hstep:=HG.out.step HK.out hlt' (Kd.out.mono (fun q _ e=>by rw [←HV.out];exact e)) (by rw [←HV.out,Kb.out];exact Kp.out) (FullG.of_owns Kj.out (by simp [MB])) (fun q e=>⟨by rw [←HV.out];exact Kc.out q e,(Kj.out.lt q e)⟩) r4 u4 o4
       have Ks:=hid hrun4';have Zb:=hid hstep
       obtain ⟨L2,hL2e⟩:∃L2,L2=2*n+70:=⟨_,rfl⟩
       rw [←hL2e] at Ks hnl⊢
       clear hrun4 hrun4' hstep hrm r4 u4 o4 hms4 hL2e
       go_wp2_with (at_builtin;refine wpList_append_run rfl _ _ _ rfl rfl rfl Ks.out ?_)
       go_roundw
       case rel=>exact ⟨j2+1,by omega,by go_num,ma4,mc4,_,rfl,Zb.out⟩
       case measure=>simp [intOf];omega
    ·obtain rfl:j2=j:=by omega
     have Kg:=HG
     clear hgr hcell
     go_wp2
     obtain ⟨wo,rfl⟩:∃wo,wo=wr:=⟨_,rfl⟩
     go_loopw [9] (fun i wr=>∃j3:Nat,j3≤j2∧i=.int .i64 j3∧Drawn wo wr) (fun i _=>j2-(intOf i).toNat)
     case atStart=>exact ⟨0,Nat.zero_le _,rfl,⟨Upd.refl _ _,rfl⟩⟩
     case round=>
      clear c0 hp
      obtain ⟨j3,hj3,rfl,hdr⟩:=hrel
      have Kh:=hid hdr
      have hU:Upd k.vown w wr:=Kg.out.upd.trans hdr.1 (fun _ _ e=>e.elim)
      obtain ⟨c0,hp,hcell⟩:=Ke.out _ _ hU (fun _ _ e=>e)
      by_cases hlt:j3<j2
      ·have hlt':j3<k.ls.length:=by have:=HN.out;omega
       have hltg:j3<gs.length:=by rw [Kg.out.len];exact hlt
       obtain rfl:=Ki.out (by omega)
       obtain ⟨hg,d0⟩:=hcell j3 hlt'
       have hf1:=(Kg.out.full j3 hlt' hlt).upd Kh.out.1 (fun _ _ e=>e)
       have hf2:=(Kg.out.gfull j3 hltg).upd Kh.out.1 (fun _ _ e=>e)
       obtain ⟨gm,cm,em,hgm,d1⟩:=SRow.cell (SRow.upd Kg.out.row Kh.out.1 (fun _ _ e=>e)) (k:=j3) (u:=gs[j3]) (by simp [hltg])
       injection em with em1 _ em3
       subst em1 em3
       obtain ⟨v,hv⟩:∃v,v=k.ls[j3].v:=⟨_,rfl⟩
       obtain ⟨g2,hg2⟩:∃g,g=gs[j3]:=⟨_,rfl⟩
       rw [←hv] at d0 hf1
       rw [←hg2] at d1 hf2
       obtain ⟨va,vn,vc,rfl,v1,v2,v3⟩:=id hf1
       obtain ⟨ga2,gn2,gc2,rfl,x1,x2,x3⟩:=id hf2
       have hme:=markI_val j3
       have Kt:=hid (only_any (show FullG wr (.slice va vn vc) [byteV (markI j3)] from hf1))
       have Ku:=hid (show ∀V,Drawn wr V→_ from fun V hV=>only_any (show FullG V (.slice ga2 gn2 gc2) [byteV (markI j3)] from hf2.upd hV.1 (fun _ _ e=>e)))
       generalize markI j3=m at hme Kt Ku
       have hja:∀V,Drawn wr V→V.cell? ⟨k.p,0,none⟩=wr.cell? ⟨k.p,0,none⟩:=fun V h=>h.cell _
       have HP:=hid (show k.p<wr.heap.size from hp)
       clear hdr hcell hf1 hf2 v3 x3 hU hja hv hg2
       go_wp2_with fail
       refine Kt.out.mono ?_
       rintro e wa ⟨rfl,hda⟩
       have Kl:=hid hda
       have d1':=(hda.cell _).trans d1
       have hgm':gm<wa.heap.size:=by rw [hda.2];exact hgm
       clear hda
       go_wp2_with fail
       refine (Ku.out _ Kl.out).mono ?_
       rintro e wb ⟨rfl,hdb⟩
       have Kv:=hid (show Drawn wr wb from ⟨Kl.out.1.trans hdb.1 (fun _ _ e=>e),hdb.2.trans Kl.out.2⟩)
       clear hdb
       go_wp2
       go_roundw
       case rel=>exact ⟨j3+1,by omega,by go_num,Kh.out.1.trans Kv.out.1 (fun _ _ e=>e),Kv.out.2.trans Kh.out.2⟩
       case measure=>simp [intOf];omega
      ·obtain rfl:j3=j2:=by omega
       clear hdr hcell
       go_wp2
       go_ret
       exact ⟨rfl,hU.mono (fun q _ e=>by obtain ⟨i,hi,e⟩:=e;exact ⟨_,KP.oV hi e⟩)⟩
end Go.Proofs.YtgaidmohdhaonaaGreatDoor
