/-
  Package strataref4, walked: Append.
  Package strataref4, walked: Rename.
  Package strataref4, walked: Read.
-/
import Derived.Test.YtgaidmohdhaonaaGreatDoorRF
set_option linter.unusedVariables false
set_option linter.unusedSimpArgs false
set_option linter.unnecessarySimpa false
set_option linter.unusedSectionVars false
set_option maxRecDepth 100000
set_option maxHeartbeats 3200000
namespace Go.Proofs.YtgaidmohdhaonaaGreatDoor
open Go Go.RowKit
theorem actA_six {a:DiskA} {F:List FileA} (h:a.armed=1):actA a (some 6) F=(3,{ a with files:=F,cnt:=bump a.cnt (some 6),armed:=0,down:=true }):=by
 unfold actA
 rw [if_neg (by omega),if_pos h,if_pos rfl]
theorem refAppend_any {w:World} {r:RS} (hr:r.In w) (hso:Sorted r.F) (n:ByteArray) {v:Value} {bs:List UInt8} (hv:BytesAt w v bs) (hvb:∀a l c,v=.slice (some a) l c→0<l→¬r.own a.block∧a.block<w.heap.size) (hbl:bs.length≤1000000000) :
  Calls Tryz.prog 119 #[.pointer (some ⟨r.p,0,none⟩),.string n,v] w fun e w'=>e=.returned (.int .i64 (cAppend r.abs n bs).1)∧∃r2,RStep w w' r r2∧Alike r2.abs (cAppend r.abs n bs).2∧Sorted r2.F:=by
 have hk:=refAsked_any hr n
 rw [asked_eq] at hk
 have HA:=hid (refAt_any hr n)
 have HU:=hid (fun q=>refUsed_any (hr.drewN q))
 have c0:=hr.c_room
 have hp:=hr.plt
 have hrm:=hr.room;have hcp:=hr.cap
 have HR:=hid hr
 obtain ⟨va,vc,rfl,hvn,hvs⟩:=hv
 have HV:=hid (show BytesAt w (.slice va bs.length vc) bs from ⟨va,vc,rfl,hvn,hvs⟩)
 have Kh:=hid hvb
 clear hvn hvs hvb
 unfold cAppend
 by_cases h0:lookC r.abs n false=0
 ·rw [if_neg (by simpa using h0)]
  rw [h0] at hk
  have HK:=hid hk
  obtain ⟨hoff,hok,-⟩:=lookRes_zero.1 h0
  by_cases hlong:67108864<bs.length
  ·rw [if_pos hlong]
   clear h0 hk hr hoff hok
   go_enter Tryz.func119,Tryz.ntmps119
   go_wp2_with (go_at_call 164;refine HK.out.mono ?_;rintro e w' ⟨rfl,hww⟩;obtain rfl:=hww.symm)
   go_ret
   exact ⟨rfl,r,RStep.refl HR.out,Alike.refl _,hso⟩
  rw [if_neg hlong]
  have hsum:r.abs.cap-(r.abs.files.map (·.data.length)).sum=r.room-usedR r.F:=by rw [show r.abs.files=r.F.map FV.abs from rfl,usedR_abs];rfl
  rw [hsum]
  rcases atR_cases r.F n with ⟨h1,h2,h3⟩|⟨k,hkl,h1,h3,h2⟩
  ·have hfn:findA r.abs.files n=none:=h2
   rw [hfn,if_pos (by rfl)]
   rw [h1] at HA
   clear h0 hk hr hoff hok h1 h2 h3 hfn hsum
   go_enter Tryz.func119,Tryz.ntmps119
   go_wp2_with (first|(go_at_call 164;refine HK.out.mono ?_;rintro e w' ⟨rfl,hww⟩;obtain rfl:=hww.symm)|(go_at_call 151;refine HA.out.mono ?_;rintro e w' ⟨rfl,hww⟩;obtain rfl:=hww.symm))
   go_ret
   exact ⟨rfl,r,RStep.refl HR.out,Alike.refl _,hso⟩
  have hfn:findA r.abs.files n=some r.F[k].abs:=h2
  rw [hfn,if_neg (by simp)]
  rw [h1] at HA
  obtain ⟨U,hU⟩:∃U,U=usedR r.F:=⟨_,rfl⟩
  rw [←hU] at HU hrm⊢
  by_cases hfull:r.room-U<bs.length
  ·rw [if_pos hfull]
   have hb2:((r.room:Nat):Int)<(U:Int)+(bs.length:Int):=by omega
   clear h0 hk hr hoff hok h1 h2 h3 hfn hsum hU hfull
   go_enter Tryz.func119,Tryz.ntmps119
   go_wp2_with (first|(go_at_call 164;refine HK.out.mono ?_;rintro e w' ⟨rfl,hww⟩;obtain rfl:=hww.symm)|(go_at_call 151;refine HA.out.mono ?_;rintro e w' ⟨rfl,hww⟩;obtain rfl:=hww.symm))
   go_quiet ((go_at_call 152;exact Calls.quiet_of_same (HU.out _)))
   go_wp2
   go_ret
   exact ⟨rfl,r,RStep.of_upd HR.out ((Upd.refl _ _).drewN _),Alike.refl _,hso⟩
  ·rw [if_neg hfull]
   have hb2:¬((r.room:Nat):Int)<(U:Int)+(bs.length:Int):=by omega
   have hupd:updA r.abs.files n (fun f=>{ f with data:=f.data++bs })=(r.F.map FV.abs).set k { r.F[k].abs with data:=r.F[k].data++bs }:=by
    have hkl':k<(r.F.map FV.abs).length:=by simpa using hkl
    have:=updA_set (sorted_nodup hso) hkl' (fun f=>{ f with data:=f.data++bs })
    rw [List.getElem_map] at this
    rw [←h3]
    exact this
   have Ki:=hid hupd
   have hsm:=hr.small hkl
   have Kk:=hid hU;have Kb:=hid hoff
   have Kl:=hid hrm
   clear h0 hk hr hok h1 h2 h3 hfn hsum hU hfull hupd hoff
   go_enter Tryz.func119,Tryz.ntmps119
   go_wp2_with (first|(go_at_call 164;refine HK.out.mono ?_;rintro e w' ⟨rfl,hww⟩;obtain rfl:=hww.symm)|(go_at_call 151;refine HA.out.mono ?_;rintro e w' ⟨rfl,hww⟩;obtain rfl:=hww.symm))
   go_quiet ((go_at_call 152;exact Calls.quiet_of_same (HU.out _)))
   revert nq
   intro q
   obtain ⟨w1,hw1⟩:∃w1,w1=w.drewN q:=⟨_,rfl⟩
   rw [←hw1]
   have hin1:r.In w1:=by rw [hw1];exact HR.out.drewN q
   have hv1:BytesAt w1 (.slice va bs.length vc) bs:=HV.out.upd (show Upd (fun _=>False) w w1 by rw [hw1];exact (Upd.refl _ _).drewN q) (fun a l c e h=>⟨fun h=>h,(Kh.out a l c e h).2⟩)
   have hst1:RStep w w1 r r:=RStep.of_upd HR.out (by rw [hw1];exact (Upd.refl _ _).drewN q)
   have Kc:=hid hst1
   clear hw1 hst1
   go_wp2_with fail
   obtain ⟨ao,cap,hfv,hcap,hat⟩:=hin1.at
   have c1:=hin1.c_f
   rw [hfv] at c1
   obtain ⟨g,rfl,hg,hgp,d0,d1,d2⟩:=hat k hkl
   have hmem:=List.getElem_mem hkl
   have hdk:=hin1.files.data r.F[k] hmem
   obtain ⟨p1,q1,hdv,-⟩:=hdk.shape
   have hng:¬r.F[k].dv.ownBlock=some g:=fun e=>(List.nodup_append.1 hin1.files.nodup).2.2 g (by rw [hfv];simp [Value.ownBlock]) g (mem_fvBlocks.2 ⟨_,hmem,e⟩) rfl
   have hnp:¬r.F[k].dv.ownBlock=some r.p:=fun e=>hin1.apart (.inr (mem_fvBlocks.2 ⟨_,hmem,e⟩))
   obtain ⟨v',w2,hrun,hd2,hu2,hat2⟩:=run_append_data (w:=w1.drew) (src:=.slice va bs.length vc) (news:=bs) (hdk.upd ((Upd.refl (fun _=>False) w1).drew) (fun _ _ h=>h)) (hv1.upd ((Upd.refl (fun _=>False) w1).drew) (fun a l c e h=>⟨fun h=>h,by have:=(Kh.out a l c e h).2;exact Nat.lt_of_lt_of_le this Kc.out.upd.size⟩)) (by omega) 22
   have hdl2:r.F[k].synced≤(r.F[k].data++bs).length:=by have:=HR.out.synced _ hmem;simp;omega
   have hroom2:usedR r.F+(r.F[k].data++bs).length≤r.room+r.F[k].data.length:=by have h1:=Kk.out;have h2:=Kl.out;simp;omega
   have hs2:=Kc.out.trans (hin1.setData hfv hkl (((Upd.refl (fun b=>r.F[k].dv.ownBlock=some b) w1).drew).trans hu2 (fun _ _ h=>h)) hd2 hat2 hroom2 hdl2)
   have c1':w2.cell? ⟨r.p,1,none⟩=some (.slice (some ⟨g,0,none⟩) r.F.length cap):=(World.cell?_of_block (a:=⟨r.p,1,none⟩) (hu2.block r.p hin1.plt hnp)).trans c1
   have e1:w2.cell? ⟨g,k*3+1,none⟩=some r.F[k].dv:=(World.cell?_of_block (a:=⟨g,k*3+1,none⟩) (hu2.block g hg hng)).trans d1
   have fg:w2.frozen? ⟨g,k*3+1,none⟩=false:=by
    rcases hin1.files.row.2 with ⟨e,hz⟩|⟨g',cap',cur,e,-,hg',-⟩
    ·omega
    ·rw [hfv] at e;injection e with e1 _ _;injection e1 with e1;injection e1 with e1;subst e1
     rw [World.frozen?_of_block (a:=⟨g,k*3+1,none⟩) (hu2.block g hg hng)]
     exact frozen_of_row _ _ _ _ _ hg'
   have hsn:Sorted (r.F.set k ⟨r.F[k].name,v',r.F[k].data++bs,r.F[k].synced⟩):=sorted_names hso (set_name r.F hkl rfl)
   have habs:(r.F.set k ⟨r.F[k].name,v',r.F[k].data++bs,r.F[k].synced⟩).map FV.abs=(r.F.map FV.abs).set k { r.F[k].abs with data:=r.F[k].data++bs }:=by rw [map_set_abs];rfl
   obtain ⟨r2,hr2⟩:∃r2:RS,r2 = { r with F:=r.F.set k ⟨r.F[k].name,v',r.F[k].data++bs,r.F[k].synced⟩ }:=⟨_,rfl⟩
   have hq:r2.p=r.p∧r2.off=false∧r2.armed=r.armed∧r2.cnt=r.cnt∧r2.room=r.room∧r2.F.map FV.abs=(r.F.map FV.abs).set k { r.F[k].abs with data:=r.F[k].data++bs }∧Sorted r2.F:=by rw [hr2];exact ⟨rfl,Kb.out,rfl,rfl,rfl,habs,hsn⟩
   obtain ⟨q1',q2',q3',q4',q5',q6',q7'⟩:=hq
   rw [←hr2] at hs2
   rw [hdv] at hrun d1 e1
   obtain ⟨a2,c2,hsh,-,-,-,-⟩:=hd2.shape
   obtain ⟨N2,hN2⟩:∃N2,N2=(r.F[k].data++bs).length:=⟨_,rfl⟩
   rw [←hN2] at hsh
   subst hsh
   obtain ⟨N1,hN1⟩:∃N1,N1=r.F[k].data.length:=⟨_,rfl⟩
   rw [←hN1] at hrun d1 e1
   have Kd:=hid hs2;have Kj:=hid hrun
   have Q1:=hid q1';have Q2:=hid q2';have Q3:=hid q3';have Q4:=hid q4';have Q5:=hid q5';have Q6:=hid q6';have Q7:=hid q7'
   have hct:=HR.out.count
   have hg2:g<w2.heap.size:=Nat.lt_of_lt_of_le hg hu2.size
   have hp1:r.p<w1.heap.size:=hin1.plt
   have hp2:r.p<w2.heap.size:=Nat.lt_of_lt_of_le hp1 hu2.size
   clear hin1 hv1 hfv hat d0 d2 hmem hdk hdv hng hnp hrun hd2 hu2 hat2 hdl2 hroom2 hs2 hsn habs hr2 q1' q2' q3' q4' q5' q6' q7' hN1 hN2 hrm hb2 hsm hlong hcp
   go_region_law (refine step_append_eq rfl (.tmp 45) (.tmp 46) 22 rfl rfl rfl Kj.out ?_)
   all_goals
    obtain ⟨w3,hw3⟩:∃w3,w3=w2.setCell ⟨g,k*3+1,none⟩ (.slice a2 N2 c2):=⟨_,rfl⟩
    rw [←hw3] at Kd⊢
    have hin:=Kd.out.ins
    have hb:=hin.bump2 5 (by simp)
    rw [Q1.out,Q4.out] at hb
    have ca:w3.cell? ⟨r.p,4+0,none⟩=some (.int .i64 r.cnt.acts):=by have h:=hin.cell 4;rw [Q1.out] at h;rw [←Q4.out];exact h
    have fa:w3.frozen? ⟨r.p,4+0,none⟩=false:=by have h:=hin.free 4;rw [Q1.out] at h;exact h
    have cb:w3.cell? ⟨r.p,4+1,none⟩=some (.int .i64 r.cnt.appends):=by have h:=hin.cell 5;rw [Q1.out] at h;rw [←Q4.out];exact h
    have fb:w3.frozen? ⟨r.p,4+1,none⟩=false:=by have h:=hin.free 5;rw [Q1.out] at h;exact h
    have hp3:r.p<w3.heap.size:=by have h:=hin.plt;rw [Q1.out] at h;exact h
    have Ke:=hid (Kd.out.trans hb)
    clear hw3 hin hb c1 hg c1' e1 d1 fg hgp hp2 hg2 hct hcap
    have hperm:(r2.bumped (some 6)).abs.files.Perm (updA r.abs.files n (fun f=>{ f with data:=f.data++bs })):=by rw [Ki.out];exact .of_eq Q6.out
    have hL4:=refLast_any Ke.out.ins
    rw [show (r2.bumped (some 6)).p=r.p from Q1.out] at hL4
    rcases lastR_facts (r2.bumped (some 6)) Q2.out (by show 0≤r2.armed;rw [Q3.out];exact HR.out.armed.1) with ⟨l1,l2,l3⟩|⟨l1,l2,A,hA,l3⟩
    ·rw [l1,l3] at hL4
     have h6:=actA_six (a:=r.abs) (F:=updA r.abs.files n (fun f=>{ f with data:=f.data++bs })) (Q3.out.symm.trans l2)
     have H6:=hid h6;have Kf:=hid hL4;have Kg:=hid hperm
     clear l1 l2 l3 hL4 h6 hperm
     go_wp2_with fail
     refine Kf.out.mono ?_
     rintro e w5 ⟨rfl,hst5⟩
     have Ka:=hid hst5
     clear hst5
     go_wp2
     go_ret
     rw [H6.out]
     refine ⟨rfl,_,Ke.out.trans Ka.out,⟨Q5.out,Kg.out,rfl,rfl,?_⟩,Q7.out⟩
     show bump r2.cnt (some 6)=bump r.cnt (some 6)
     rw [Q4.out]
    ·rw [l1,l3] at hL4
     have h6:=actA_go (a:=r.abs) (co:=some 6) (F:=updA r.abs.files n (fun f=>{ f with data:=f.data++bs })) (fun h=>l2 (Q3.out.trans h))
     have hA':A=if r.armed=0 then 0 else r.armed-1:=by rw [hA];show (if r2.armed=0 then 0 else r2.armed-1)=_;rw [Q3.out]
     have H6:=hid h6;have Kf:=hid hL4;have Kg:=hid hperm;have Km:=hid hA'
     clear l1 l2 l3 hL4 h6 hperm hA hA'
     go_wp2_with fail
     refine Kf.out.mono ?_
     rintro e w5 ⟨rfl,hst5⟩
     have Ka:=hid hst5
     clear hst5
     go_wp2
     go_ret
     rw [H6.out]
     refine ⟨rfl,_,Ke.out.trans Ka.out,⟨Q5.out,Kg.out,Q2.out.trans Kb.out.symm,Km.out,?_⟩,Q7.out⟩
     show bump r2.cnt (some 6)=bump r.cnt (some 6)
     rw [Q4.out]
 ·rw [if_pos (by simpa using h0)]
  obtain ⟨e0,he0⟩:∃e0,e0=lookC r.abs n false:=⟨_,rfl⟩
  rw [←he0] at h0 hk⊢
  have hb:(e0 != 0)=true:=by simpa using h0
  have HK:=hid hk
  clear h0 he0 hk hr
  go_enter Tryz.func119,Tryz.ntmps119
  go_wp2_with (go_at_call 164;refine HK.out.mono ?_;rintro e w' ⟨rfl,hww⟩;obtain rfl:=hww.symm)
  go_ret
  exact ⟨rfl,r,RStep.refl HR.out,Alike.refl _,hso⟩
theorem fv_inj:∀ {l:List FV},(fvBlocks l).Nodup→∀ {x y:FV},x∈l→y∈l→∀ {b:Nat},x.dv.ownBlock=some b→y.dv.ownBlock=some b→x=y
 | a :: l,hnd,x,y,hx,hy,b,hbx,hby=>by
  have e:fvBlocks (a :: l)=a.dv.ownBlock.toList++fvBlocks l:=by simp [fvBlocks]
  rw [e,List.nodup_append] at hnd
  rcases List.mem_cons.1 hx with e1|h1
  ·rcases List.mem_cons.1 hy with e2|h2
   ·rw [e1,e2]
   ·exact absurd rfl (hnd.2.2 b (by rw [←e1];simp [hbx]) b (mem_fvBlocks.2 ⟨y,h2,hby⟩))
  ·rcases List.mem_cons.1 hy with e2|h2
   ·exact absurd rfl (hnd.2.2 b (by rw [←e2];simp [hby]) b (mem_fvBlocks.2 ⟨x,h1,hbx⟩))
   ·exact fv_inj hnd.2.1 h1 h2 hbx hby
def cRename (a:DiskA) (n t:ByteArray):Int×DiskA:=
 if lookC a n false≠0 then (lookC a n false,a)
 else if lookC a t false≠0 then (lookC a t false,a)
 else match findA a.files n with
  | none=>(42,a)
  | some f=>actA a (some 8) (renameF a.files n t f)
theorem perm_drop:∀ {l:List FileA},(l.map (·.name)).Nodup→∀ {f:FileA},f∈l→(f :: dropA l f.name).Perm l
 | a :: l,hnd,f,hf=>by
  rw [List.map_cons,List.nodup_cons] at hnd
  rcases List.mem_cons.1 hf with rfl|hf
  ·have:dropA (f :: l) f.name=l:=by
    unfold dropA
    rw [List.filter_cons,if_neg (by simp)]
    rw [List.filter_eq_self]
    intro x hx
    simp only [decide_eq_true_eq]
    intro e
    exact hnd.1 (e ▸ List.mem_map_of_mem hx)
   rw [this]
  ·have hne:a.name≠f.name:=fun e=>hnd.1 (e ▸ List.mem_map_of_mem hf)
   have:dropA (a :: l) f.name=a :: dropA l f.name:=by
    unfold dropA
    rw [List.filter_cons,if_pos (by simpa using hne)]
   rw [this]
   exact (List.Perm.swap _ _ _).trans ((perm_drop hnd.2 hf).cons a)
theorem rename_perm {F:List FV} (hso:Sorted F) {k:Nat} (hk:k<F.length) {n t:ByteArray} (hn:F[k].name=n) :
  ((putR (dropR (dropR F n) t) { F[k] with name:=t }).map FV.abs).Perm (renameF (F.map FV.abs) n t F[k].abs):=by
 refine ((putR_perm _ _).map FV.abs).trans ?_
 rw [List.map_cons,dropR_abs,dropR_abs]
 have hmem:F[k].abs∈F.map FV.abs:=List.mem_map_of_mem (List.getElem_mem hk)
 unfold renameF
 by_cases h:n=t
 ·rw [if_pos h]
  subst h
  have e:dropA (dropA (F.map FV.abs) n) n=dropA (F.map FV.abs) n:=by unfold dropA;rw [List.filter_filter];congr 1;funext x;simp
  rw [e]
  have e2:FV.abs { F[k] with name:=n } = F[k].abs:=by rw [←hn]
  rw [e2]
  have:=perm_drop (sorted_nodup hso) hmem
  rw [show F[k].abs.name=n from hn] at this
  exact this
 ·rw [if_neg h]
  have e:dropA (dropA (F.map FV.abs) n) t=dropA (dropA (F.map FV.abs) t) n:=by unfold dropA;rw [List.filter_filter,List.filter_filter];congr 1;funext x;exact Bool.and_comm _ _
  rw [e]
  exact (List.perm_append_singleton _ _).symm
theorem dropR_names {l:List FV} {n:ByteArray} {x:FV} (h:x∈dropR l n):x∈l∧x.name≠n:=by
 unfold dropR at h
 have:=List.mem_filter.1 h
 exact ⟨this.1,by simpa using this.2⟩
theorem dropR_lt {l:List FV} {n:ByteArray} {k:Nat} (hk:k<l.length) (hn:l[k].name=n):(dropR l n).length<l.length:=by
 unfold dropR
 have h1:=List.length_filter_le (fun f:FV=>decide (f.name≠n)) l
 rcases Nat.lt_or_eq_of_le h1 with h|h
 ·exact h
 ·have:=List.length_filter_eq_length_iff.1 h l[k] (List.getElem_mem hk)
  simp [hn] at this
theorem usedR_drop2 {l:List FV} {n:ByteArray} {k:Nat} (hk:k<l.length) (hn:l[k].name=n):usedR (dropR l n)+l[k].data.length≤usedR l:=by
 unfold dropR usedR
 induction l generalizing k with
 | nil=>simp at hk
 | cons a t ih=>
  rw [List.filter_cons]
  match k,hk,hn with
  | 0,_,hn=>
   have:=usedR_filter t (fun f:FV=>decide (f.name≠n))
   unfold usedR at this
   simp only [List.getElem_cons_zero] at hn⊢
   rw [if_neg (by simp [hn])]
   simp only [List.map_cons,List.sum_cons]
   omega
  | k+1,hk,hn=>
   have:=ih (k:=k) (by simpa using hk) (by simpa using hn)
   simp only [List.getElem_cons_succ]
   split
   ·simp only [List.map_cons,List.sum_cons];omega
   ·simp only [List.map_cons,List.sum_cons];omega
theorem refRename_any {w : World} {r : RS} (hr : r.In w) (hso : Sorted r.F) (n t : ByteArray) :
    Calls Tryz.prog 182 #[.pointer (some ⟨r.p,0,none⟩),.string n,.string t] w fun e w'=>e=.returned (.int .i64 (cRename r.abs n t).1)∧∃r2,RStep w w' r r2∧Alike r2.abs (cRename r.abs n t).2∧Sorted r2.F:=by
  have hk1:=refAsked_any hr n
  rw [asked_eq] at hk1
  have hk2:=refAsked_any hr t
  rw [asked_eq] at hk2
  have hk3:=refThere_any hr n
  rw [there_eq] at hk3
  have HL:=hid (refLast_any hr)
  have hp:=hr.plt
  have HR:=hid hr
  unfold cRename
  by_cases h0:lookC r.abs n false=0
  · rw [if_neg (by simpa using h0)]
    rw [h0] at hk1
    have Kb:=hid hk1
    by_cases h1:lookC r.abs t false=0
    · rw [if_neg (by simpa using h1)]
      rw [h1] at hk2
      have Kd:=hid hk2
      obtain ⟨hoff,hok,-⟩:=lookRes_zero.1 h0
      rcases atR_cases r.F n with ⟨a1,a2,a3⟩|⟨k,hkl,a1,a3,a2⟩
      · have hfn:findA r.abs.files n=none:=a2
        rw [hfn]
        have h42:lookC r.abs n true=42:=by unfold lookC;rw [hfn,hoff,hok];rfl
        rw [h42] at hk3
        have Kf:=hid hk3
        clear h0 h1 hk1 hk2 hk3 hr hoff hok a1 a2 a3 hfn h42
        go_enter Tryz.func182,Tryz.ntmps182
        go_upto_region 2 with (go_at_call 164;refine Kb.out.mono ?_;rintro e w' ⟨rfl,hww⟩;obtain rfl:=hww.symm)
        go_upto_region 4 with (go_at_call 164;refine Kd.out.mono ?_;rintro e w' ⟨rfl,hww⟩;obtain rfl:=hww.symm)
        go_wp2_with (go_at_call 178;refine Kf.out.mono ?_;rintro e w' ⟨rfl,hww⟩;obtain rfl:=hww.symm)
        go_ret
        exact ⟨rfl,r,RStep.refl HR.out,Alike.refl _,hso⟩
      · have hfn:findA r.abs.files n=some r.F[k].abs:=a2
        rw [hfn]
        have h00:lookC r.abs n true=0:=by unfold lookC;rw [hfn,hoff,hok];rfl
        rw [h00] at hk3
        have Kf:=hid hk3
        simp only []
        rcases lastR_facts r hoff hr.armed.1 with ⟨l1,l2,l3⟩|⟨l1,l2,A,hA,l3⟩
        · rw [actA_stop (a:=r.abs) l2 (by simp)]
          rw [l1,l3] at HL
          clear h0 h1 hk1 hk2 hk3 hr hoff hok l1 l2 l3 a1 a2 a3 hfn h00
          go_enter Tryz.func182,Tryz.ntmps182
          go_upto_region 2 with (go_at_call 164;refine Kb.out.mono ?_;rintro e w' ⟨rfl,hww⟩;obtain rfl:=hww.symm)
          go_upto_region 4 with (go_at_call 164;refine Kd.out.mono ?_;rintro e w' ⟨rfl,hww⟩;obtain rfl:=hww.symm)
          go_wp2_with (go_at_call 178;refine Kf.out.mono ?_;rintro e w' ⟨rfl,hww⟩;obtain rfl:=hww.symm)
          refine HL.out.mono ?_
          rintro e w1 ⟨rfl,hst⟩
          have Ka:=hid hst
          clear hst
          go_wp2
          go_ret
          exact ⟨rfl,_,Ka.out,⟨rfl,.refl _,rfl,rfl,rfl⟩,hso⟩
        · rw [actA_go (a:=r.abs) l2,show r.abs.armed=r.armed from rfl,←hA]
          rw [l1,l3] at HL
          have Kq:=hid a1;have Ke:=hid a3
          clear h0 h1 hk1 hk2 hk3 hr hoff hok l1 l2 l3 hA a1 a2 a3 hfn h00
          go_enter Tryz.func182,Tryz.ntmps182
          go_upto_region 2 with (go_at_call 164;refine Kb.out.mono ?_;rintro e w' ⟨rfl,hww⟩;obtain rfl:=hww.symm)
          go_upto_region 4 with (go_at_call 164;refine Kd.out.mono ?_;rintro e w' ⟨rfl,hww⟩;obtain rfl:=hww.symm)
          go_wp2_with (go_at_call 178;refine Kf.out.mono ?_;rintro e w' ⟨rfl,hww⟩;obtain rfl:=hww.symm)
          refine HL.out.mono ?_
          rintro e w1 ⟨rfl,hst⟩
          have Ka:=hid hst
          have hin1:=hst.ins
          have hat84:=refAt_any (hin1.drewN 0) n
          obtain ⟨ao,cap,hfv,hcap,hat⟩:=hin1.at
          have c1:=hin1.c_f
          rw [hfv] at c1
          obtain ⟨g,rfl,hg,hgp,d0,d1,d2⟩:=hat k hkl
          have hmem:r.F[k]∈r.F:=List.getElem_mem hkl
          obtain ⟨p1,q1,hdv,-⟩:=(hin1.files.data r.F[k] hmem).shape
          have hin1d:({ r with armed:=A } : RS).In w1.drew:=hin1.upd ((Upd.refl (fun _=>False) w1).drew) (fun _ _ h=>h)
          have hAT:∀W,Upd (fun _=>False) w1 W→Calls Tryz.prog 151 #[.pointer (some ⟨r.p,0,none⟩),.string n] W fun e w'=>e=.returned (.int .i64 k)∧w'=W:=fun W hW=>by
            have h:=refAt_any (hin1.upd hW (fun _ _ h=>h)) n
            rw [show atR ({ r with armed:=A } : RS).F n=atR r.F n from rfl,Kq.out] at h
            exact h
          have Kr:=hid hAT
          have e0:w1.cell? ⟨g,k*3,none⟩=some (.string n):=by rw [←Ke.out];exact d0
          have e1:w1.cell? ⟨g,k*3+1,none⟩=some (.slice p1 r.F[k].data.length q1):=by rw [←hdv];exact d1
          have e2:w1.cell? ⟨g,k*3+2,none⟩=some (.int .i64 r.F[k].synced):=d2
          have hct:r.F.length≤256:=hin1.count
          have hp1:r.p<w1.heap.size:=hin1.plt
          have hgp':g≠r.p:=hgp
          have Kc:=hid hdv
          obtain ⟨Y,hY⟩:∃Y,Y=r.F[k].synced:=⟨_,rfl⟩
          obtain ⟨L,hL⟩:∃L,L=r.F[k].data.length:=⟨_,rfl⟩
          rw [←hL] at e1 Kc
          rw [←hY] at e2
          have HY:=hid hY;have Kw:=hid hL
          clear hst hin1 hin1d hAT hat84 hat d0 d1 d2 hmem hdv hfv hgp hY hL
          go_wp2_with fail
          have hgb:g<w1.heap.size+1:=by omega
          have hpb:r.p<w1.heap.size+1:=by omega
          go_region_held3 (fun W=>W.cell? ⟨r.p,1,none⟩=some (.slice (some ⟨g,0,none⟩) r.F.length cap)∧W.cell? ⟨g,k*3,none⟩=some (.string n)∧W.cell? ⟨g,k*3+1,none⟩=some (.slice p1 L q1)∧W.cell? ⟨g,k*3+2,none⟩=some (.int .i64 Y))
            (first
              | go_keep
              | (go_split_ands
                 refine ⟨?_, ?_, ?_, ?_⟩
                 · (simp [go_sem]; first | assumption | done)
                 · (simp [go_sem]; first | assumption | done)
                 · (simp [go_sem]; first | assumption | done)
                 · (simp [go_sem]; first | assumption | done)))
            (first
              | (go_at_call 151;refine (Kr.out _ (by first|exact (Upd.refl _ _).drew|exact ((Upd.refl _ _).drew).alloc _)).mono ?_;rintro e w' ⟨rfl,hww⟩;obtain rfl:=hww.symm)
              | fail)
          all_goals
            obtain ⟨w2,hw2⟩:∃w2,w2=(w1.alloc (.cells #[.string n,.slice p1 L q1,.int .i64 Y] 185)).drew:=⟨_,rfl⟩
            rw [←hw2]
            have hu12:Upd (fun _=>False) w1 w2:=by rw [hw2];exact ((Upd.refl _ _).alloc _).drew
            have hb2:w2.heap[w1.heap.size]? = some (.cells #[.string n,.slice p1 L q1,.int .i64 Y] 185 (0,0)):=by rw [hw2];exact heap_alloc_new w1 _
            have hlt2:w1.heap.size<w2.heap.size:=by rw [hw2];show w1.heap.size<(w1.alloc _).heap.size;simp
            obtain ⟨fb,hfb⟩:∃fb,fb=w1.heap.size:=⟨_,rfl⟩
            rw [←hfb] at hb2 hlt2⊢
            have Kg:=hid hfb;have Kn:=hid hu12;have Kl:=hid hb2
            have hst2:=hid (Ka.out.trans (RStep.of_upd Ka.out.ins hu12))
            clear hw2 hfb hu12 hb2 c1 e0 e1 e2 hct hgb hpb
            have hd1:=hid (refDrop_any hst2.out.ins n)
            go_wp2_with fail
            refine hd1.out.mono ?_
            rintro e w3 ⟨rfl,fv1,hst3,hfr3,hu3⟩
            have Ki:=hid hst3;have Kv:=hid hfr3;have Km:=hid hu3
            clear hst3 hfr3 hu3 hd1
            have hd2:=hid (refDrop_any Ki.out.ins t)
            go_wp2_with fail
            refine hd2.out.mono ?_
            rintro e w4 ⟨rfl,fv2,hst4,hfr4,hu4⟩
            have Kj:=hid hst4;have Kk:=hid hfr4;have Ks:=hid hu4
            clear hst4 hfr4 hu4 hd2
            have hfp:fb≠r.p:=by have:=Ka.out.ins.plt;have:=Kg.out;intro e;omega
            have hu14:Upd (fun k=>k=r.p) w2 w4:=Km.out.trans Ks.out (fun _ _ h=>h)
            have hb4:=hu14.get Kl.out hfp
            have b0:w4.cell? ⟨fb,0,none⟩=some (.string n):=by rw [cell_of_row w4 _ 0 _ _ _ hb4];rfl
            have b1:w4.cell? ⟨fb,1,none⟩=some (.slice p1 L q1):=by rw [cell_of_row w4 _ 1 _ _ _ hb4];rfl
            have b2:w4.cell? ⟨fb,2,none⟩=some (.int .i64 Y):=by rw [cell_of_row w4 _ 2 _ _ _ hb4];rfl
            have bf:w4.frozen? ⟨fb,0,none⟩=false:=frozen_of_row w4 fb 0 _ _ hb4
            have hfb4:fb<w4.heap.size:=lt_of_heap hb4
            have hmem:r.F[k]∈r.F:=List.getElem_mem hkl
            have hd0:DataIs w1 (.slice p1 L q1) r.F[k].data:=by rw [←Kc.out];exact Ka.out.ins.files.data r.F[k] hmem
            have hnp:∀b,(Value.slice p1 L q1).ownBlock=some b→b≠r.p:=fun b hb e=>Ka.out.ins.apart (.inr (mem_fvBlocks.2 ⟨_,hmem,by rw [Kc.out,hb,e]⟩))
            have hd4:DataIs w4 (.slice p1 L q1) r.F[k].data:=(hd0.upd Kn.out (fun _ _ h=>h)).upd hu14 hnp
            have hu5:=Upd.cell_only w4 fb 0 (.string t)
            have hnf:∀b,b<w1.heap.size→b≠fb:=fun b hb e=>by have:=Kg.out;omega
            have hd5:DataIs (w4.setCell ⟨fb,0,none⟩ (.string t)) (.slice p1 L q1) r.F[k].data:=hd4.upd hu5 (fun b hb=>hnf b (hd0.lt b hb))
            have hown4:∀b,({ r with armed:=A,fv:=fv2,F:=dropR (dropR r.F n) t } : RS).own b→b≠fb:=by
              intro b hb e
              rcases hb with hb|hb|hb
              · exact hfp (e.symm.trans hb)
              · have h1:=Kk.out b hb;have h2:=Km.out.size;have h3:=lt_of_heap Kl.out;omega
              · obtain ⟨x,hx,hxb⟩:=mem_fvBlocks.1 hb
                have h1:=(Ka.out.ins.files.data x (dropR_names (dropR_names hx).1).1).lt b hxb
                exact hnf b h1 e
            have hin5:({ r with armed:=A,fv:=fv2,F:=dropR (dropR r.F n) t } : RS).In (w4.setCell ⟨fb,0,none⟩ (.string t)):=Kj.out.ins.upd hu5 hown4
            have hdo5:∀b,(Value.slice p1 L q1).ownBlock=some b→r.base≤b∧¬({ r with armed:=A,fv:=fv2,F:=dropR (dropR r.F n) t } : RS).own b:=by
              intro b hb
              have hb':r.F[k].dv.ownBlock=some b:=by rw [Kc.out];exact hb
              refine ⟨HR.out.files.low b (mem_fvBlocks.2 ⟨_,hmem,hb'⟩),fun ho=>?_⟩
              rcases ho with ho|ho|ho
              · exact hnp b hb ho
              · have h1:=Kk.out b ho;have h2:=Km.out.size;have h3:=lt_of_heap Kl.out;have h4:=hd0.lt b hb;have:=Kg.out;omega
              · obtain ⟨x,hx,hxb⟩:=mem_fvBlocks.1 ho
                have h1:=dropR_names (dropR_names hx).1
                have h2:=fv_inj (List.nodup_append.1 HR.out.files.nodup).2.1 h1.1 hmem hxb hb'
                exact h1.2 (by rw [h2];exact Ke.out)
            have hlen5:(dropR (dropR r.F n) t).length<256:=by
              have h1:=dropR_lt hkl Ke.out
              have h2:(dropR (dropR r.F n) t).length≤(dropR r.F n).length:=List.length_filter_le _ _
              have:=HR.out.count
              omega
            have hroom5:usedR (dropR (dropR r.F n) t)+r.F[k].data.length≤r.room:=by
              have h1:=usedR_drop2 hkl Ke.out
              have h2:usedR (dropR (dropR r.F n) t)≤usedR (dropR r.F n):=usedR_filter _ _
              have:=HR.out.room
              omega
            have hsy5:Y≤r.F[k].data.length:=by rw [HY.out];exact HR.out.synced _ hmem
            have hP:=refPut_any hin5 ⟨t,.slice p1 L q1,r.F[k].data,Y⟩ hd5 hdo5 hlen5 hroom5 hsy5
            have HP:=hid hP
            have hs5:RStep w (w4.setCell ⟨fb,0,none⟩ (.string t)) r { r with armed:=A,fv:=fv2,F:=dropR (dropR r.F n) t }:=by
              have h4:=(hst2.out.trans Ki.out).trans Kj.out
              refine ⟨hin5,h4.p,h4.upd.setCell (p:=⟨fb,0,none⟩) (fun h=>?_) _,h4.foot⟩
              have h1:=Ka.out.upd.size;have:=Kg.out
              exact absurd h (by show ¬fb<w.heap.size;omega)
            have Kh:=hid hs5
            have hfe:({ r.F[k] with name:=t } : FV)=⟨t,.slice p1 L q1,r.F[k].data,Y⟩:=by rw [←Kc.out,HY.out]
            have hperm:=rename_perm hso hkl Ke.out (t:=t)
            rw [hfe] at hperm
            have Kt:=hid hperm
            have hns:∀x∈dropR (dropR r.F n) t,x.name≠t:=fun x hx=>(dropR_names hx).2
            have hsrt:Sorted (putR (dropR (dropR r.F n) t) ⟨t,.slice p1 L q1,r.F[k].data,Y⟩):=sorted_put (sorted_filter (sorted_filter hso)) hns
            have Ko:=hid hsrt
            have hdvb:∀b,(Value.slice p1 L q1).ownBlock=some b→r.own b:=fun b hb=>.inr (.inr (mem_fvBlocks.2 ⟨_,hmem,by rw [Kc.out];exact hb⟩))
            have Kp:=hid hdvb
            clear hP hs5 hfe hperm hns hsrt hdvb hsy5 hroom5 hlen5 hdo5 hin5 hown4 hd5 hnf hu5 hd4 hnp hd0 hmem hb4 hu14
            have hn2:fb≠r.p:=hfp
            go_wp2_with fail
            refine HP.out.mono ?_
            rintro e w6 ⟨rfl,fv',h5,h6,h7⟩
            have hs2:RStep w w6 r { r with armed:=A,fv:=fv',F:=putR (dropR (dropR r.F n) t) ⟨t,.slice p1 L q1,r.F[k].data,Y⟩ }:=by
              refine ⟨h5,rfl,Kh.out.upd.trans h6 (fun b hb ho=>(Kh.out.foot b ho).resolve_right (by omega)),fun b hb=>?_⟩
              rcases h7 b hb with h|h|h
              · exact Kh.out.foot b h
              · exact .inl (Kp.out b h)
              · exact .inr (Nat.le_trans Kh.out.upd.size h)
            have hbm:=h5.bump2 7 (by simp)
            have ca:w6.cell? ⟨r.p,4+0,none⟩=some (.int .i64 r.cnt.acts):=h5.cell 4
            have fa:w6.frozen? ⟨r.p,4+0,none⟩=false:=h5.free 4
            have cb:w6.cell? ⟨r.p,4+3,none⟩=some (.int .i64 r.cnt.renames):=h5.cell 7
            have fbb:w6.frozen? ⟨r.p,4+3,none⟩=false:=h5.free 7
            have hp6:r.p<w6.heap.size:=h5.plt
            have Ku:=hid hs2;have HB:=hid hbm
            clear h5 h6 h7 hs2 hbm b0 b1 b2 bf hfb4
            go_wp2
            go_ret
            exact ⟨rfl,_,Ku.out.trans HB.out,⟨rfl,Kt.out,rfl,rfl,rfl⟩,Ko.out⟩
    · rw [if_pos (by simpa using h1)]
      obtain ⟨e0,he0⟩:∃e0,e0=lookC r.abs t false:=⟨_,rfl⟩
      rw [←he0] at h1 hk2⊢
      have hb:(e0==0)=false:=by simpa using h1
      have hb':(e0 != 0)=true:=by simpa using h1
      have Kd:=hid hk2
      clear h0 h1 he0 hk1 hk2 hk3 hr
      go_enter Tryz.func182,Tryz.ntmps182
      go_upto_region 2 with (go_at_call 164;refine Kb.out.mono ?_;rintro e w' ⟨rfl,hww⟩;obtain rfl:=hww.symm)
      go_wp2_with (go_at_call 164;refine Kd.out.mono ?_;rintro e w' ⟨rfl,hww⟩;obtain rfl:=hww.symm)
      go_ret
      exact ⟨rfl,r,RStep.refl HR.out,Alike.refl _,hso⟩
  · rw [if_pos (by simpa using h0)]
    obtain ⟨e0,he0⟩:∃e0,e0=lookC r.abs n false:=⟨_,rfl⟩
    rw [←he0] at h0 hk1⊢
    have hb:(e0==0)=false:=by simpa using h0
    have hb':(e0 != 0)=true:=by simpa using h0
    have Kb:=hid hk1
    clear h0 he0 hk1 hk2 hk3 hr
    go_enter Tryz.func182,Tryz.ntmps182
    go_wp2_with (go_at_call 164;refine Kb.out.mono ?_;rintro e w' ⟨rfl,hww⟩;obtain rfl:=hww.symm)
    go_ret
    exact ⟨rfl,r,RStep.refl HR.out,Alike.refl _,hso⟩
def readC (a:DiskA) (n:ByteArray) (p k:Int):Int×List UInt8×DiskA:=
 if lookC a n true≠0 then (lookC a n true,[],a)
 else match findA a.files n with
  | none=>(0,[],a)
  | some f=>if rangeBad p k f.data.length then (43,[],a)
   else (0,(f.data.drop p.toNat).take k.toNat,{ a with cnt:={ a.cnt with reads:=wrap64 (a.cnt.reads+1) } })
theorem DataIs.part {w:World} {g cap:Nat} {bs:List UInt8} (h:DataIs w (.slice (some ⟨g,0,none⟩) bs.length cap) bs) {a k:Nat} (hak:a+k≤bs.length) (c:Nat) :
  BytesAt w (.slice (some ⟨g,a,none⟩) k c) ((bs.drop a).take k):=by
 obtain ⟨ao,cp,he,-,-,-,hs⟩:=h.shape
 injection he with e1 e2 e3
 subst e1
 obtain ⟨-,-,-,h4⟩:=hs _ rfl
 have hl:((bs.drop a).take k).length=k:=by simp;omega
 refine ⟨some ⟨g,a,none⟩,c,by rw [hl],(fun h=>by cases h),fun x hx j u hu=>?_⟩
 cases hx
 rw [List.getElem?_map] at hu
 have hj:j<k:=by
  rcases Nat.lt_or_ge j k with h|h
  ·exact h
  ·rw [List.getElem?_eq_none (by rw [hl];exact h)] at hu;cases hu
 rw [List.getElem?_take,if_pos hj,List.getElem?_drop,List.getElem?_eq_getElem (by omega)] at hu
 simp only [Option.map_some,Option.some.injEq] at hu
 rw [←hu,show (Addr.add ⟨g,a,none⟩ j:Addr)=⟨g,a+j,none⟩ from by simp [Addr.add]]
 exact h4 (a+j) (by omega)
theorem noneOwn (N:Nat):∀b,(Value.slice none 0 0).ownBlock=some b→N≤b:=fun b hb=>by cases hb
theorem RS.In.bumpRead {w:World} {r:RS} (h:r.In w):RStep w (w.setCell ⟨r.p,9,none⟩ (.int .i64 (wrap64 (r.cnt.reads+1)))) r { r with cnt:={ r.cnt with reads:=wrap64 (r.cnt.reads+1) } }:=
 h.turned (Upd.cell_only _ _ _ _) rfl rfl rfl rfl rfl (heap_setCell_at _ _ _ _ _ _ h.top) h.armed
theorem refRead_any {w:World} {r:RS} (hr:r.In w) (n:ByteArray) (at' k':Int) :
  Calls Tryz.prog 161 #[.pointer (some ⟨r.p,0,none⟩),.string n,.int .i64 at',.int .i64 k'] w fun e w'=>
   ∃v r2,e=.returned (.tuple #[v,.int .i64 (readC r.abs n at' k').1])∧DataIs w' v (readC r.abs n at' k').2.1∧(∀b,v.ownBlock=some b→w.heap.size≤b)∧RStep w w' r r2∧r2.abs=(readC r.abs n at' k').2.2∧r2.F=r.F:=by
 have hk:=refThere_any hr n
 rw [there_eq] at hk
 have HA:=hid (fun q=>refAt_any (hr.drewN q) n)
 have HR:=hid hr
 have hp:=hr.plt
 unfold readC
 by_cases h0:lookC r.abs n true=0
 ·rw [if_neg (by simpa using h0)]
  rw [h0] at hk
  have HK:=hid hk
  obtain ⟨fa,hfa⟩:=lookC_zero h0
  rcases atR_cases r.F n with ⟨_,h2,_⟩|⟨k,hkl,h1,h3,h2⟩
  ·exact absurd (h2.symm.trans hfa) (by simp)
  have hfn:findA r.abs.files n=some r.F[k].abs:=h2
  rw [hfn]
  simp only []
  obtain ⟨ao,cap,hfv,hcap,hat⟩:=hr.at
  have c1:=hr.c_f
  rw [hfv] at c1
  obtain ⟨g,rfl,hg,hgp,d0,d1,d2⟩:=hat k hkl
  have hmem:=List.getElem_mem hkl
  have hdat:=hr.files.data r.F[k] hmem
  obtain ⟨p1,q1,hdv,hlq,hm,hnone,hsome⟩:=hdat.shape
  have hm':q1≤9223372036854775807:=by simpa [maxLen] using hm
  rw [hdv] at d1 hdat
  have hsm:=hr.small hkl
  have hct:=hr.count
  have Kb:=hid hdat
  rw [h1] at HA
  rw [show r.F[k].abs.data=r.F[k].data from rfl]
  have Kf:=hid (show ∀b,(Value.slice p1 r.F[k].data.length q1).ownBlock=some b→b≠r.p from fun b hb e=>hr.apart (.inr (mem_fvBlocks.2 ⟨_,hmem,by rw [hdv,hb,e]⟩)))
  obtain ⟨D,hD⟩:∃D,D=r.F[k].data:=⟨_,rfl⟩
  rw [←hD] at d1 hsm Kb Kf hlq hnone hsome⊢
  obtain ⟨len,hlen⟩:∃len,len=D.length:=⟨_,rfl⟩
  have Ka:=hid hlen
  by_cases hbad:rangeBad at' k' D.length=true
  ·rw [if_pos hbad]
   have hbad':at'<0∨k'<0∨(len:Int)<at'∨(len:Int)-at'<k':=by rw [hlen];simpa [rangeBad] using hbad
   rw [←hlen] at d1 hsm
   clear h0 hk hfa h1 h2 h3 hfn hat hr hfv hdv hdat hmem hm hnone hsome hD hlen hbad Kb Ka hlq d0 d2
   by_cases g1:at'<0
   ·go_enter Tryz.func161,Tryz.ntmps161
    go_wp2_with (go_at_call 178;refine HK.out.mono ?_;rintro e w' ⟨rfl,hww⟩;obtain rfl:=hww.symm)
    go_quiet ((go_at_call 151;exact Calls.quiet_of_same (HA.out _)))
    go_wp2
    go_ret2
    exact ⟨.slice none 0 0,r,rfl,.inl ⟨rfl,rfl⟩,noneOwn _,RStep.of_upd HR.out ((Upd.refl _ _).drewN _),rfl,rfl⟩
   by_cases g2:k'<0
   ·go_enter Tryz.func161,Tryz.ntmps161
    go_wp2_with (go_at_call 178;refine HK.out.mono ?_;rintro e w' ⟨rfl,hww⟩;obtain rfl:=hww.symm)
    go_quiet ((go_at_call 151;exact Calls.quiet_of_same (HA.out _)))
    go_wp2
    go_ret2
    exact ⟨.slice none 0 0,r,rfl,.inl ⟨rfl,rfl⟩,noneOwn _,RStep.of_upd HR.out ((Upd.refl _ _).drewN _),rfl,rfl⟩
   by_cases g3:(len:Int)<at'
   ·go_enter Tryz.func161,Tryz.ntmps161
    go_wp2_with (go_at_call 178;refine HK.out.mono ?_;rintro e w' ⟨rfl,hww⟩;obtain rfl:=hww.symm)
    go_quiet ((go_at_call 151;exact Calls.quiet_of_same (HA.out _)))
    go_wp2
    go_ret2
    exact ⟨.slice none 0 0,r,rfl,.inl ⟨rfl,rfl⟩,noneOwn _,RStep.of_upd HR.out ((Upd.refl _ _).drewN _),rfl,rfl⟩
   have g4:(len:Int)-at'<k':=by omega
   clear hbad'
   go_enter Tryz.func161,Tryz.ntmps161
   go_wp2_with (go_at_call 178;refine HK.out.mono ?_;rintro e w' ⟨rfl,hww⟩;obtain rfl:=hww.symm)
   go_quiet ((go_at_call 151;exact Calls.quiet_of_same (HA.out _)))
   go_wp2
   go_ret2
   exact ⟨.slice none 0 0,r,rfl,.inl ⟨rfl,rfl⟩,noneOwn _,RStep.of_upd HR.out ((Upd.refl _ _).drewN _),rfl,rfl⟩
  ·rw [if_neg hbad]
   have hbad':¬(at'<0∨k'<0∨(len:Int)<at'∨(len:Int)-at'<k'):=by rw [hlen];simpa [rangeBad] using hbad
   obtain ⟨a,rfl⟩:∃a:Nat,at'=a:=⟨at'.toNat,by omega⟩
   obtain ⟨m,rfl⟩:∃m:Nat,k'=m:=⟨k'.toNat,by omega⟩
   have hin:a+m≤len:=by omega
   rw [Int.toNat_natCast,Int.toNat_natCast]
   have hstR:=hid (fun q=>(hr.drewN q).bumpRead)
   have c9:∀q,(w.drewN q).cell? ⟨r.p,4+5,none⟩=some (.int .i64 r.cnt.reads):=fun q=>(hr.drewN q).cell 9
   have f9:∀q,(w.drewN q).frozen? ⟨r.p,4+5,none⟩=false:=fun q=>(hr.drewN q).free 9
   have C9:=hid c9;have F9:=hid f9
   have hca:a≤q1:=by omega
   have Kc:=hid hnone;have Kd:=hid hsome
   rw [←hlen] at d1 hsm
   clear h0 hk hfa h1 h2 h3 hfn hat hr hfv hdv hdat hmem hm hnone hsome hD hlen hbad hbad' d0 d2 c9 f9
   go_enter Tryz.func161,Tryz.ntmps161
   go_wp2_with (go_at_call 178;refine HK.out.mono ?_;rintro e w' ⟨rfl,hww⟩;obtain rfl:=hww.symm)
   go_quiet ((go_at_call 151;exact Calls.quiet_of_same (HA.out _)))
   revert nq
   intro q
   have c9:=C9.out q
   have f9:=F9.out q
   have hpq:r.p<(w.drewN q).heap.size:=hp
   have hst:=hid ((RStep.of_upd HR.out ((Upd.refl (fun _=>False) w).drewN q)).trans (hstR.out q))
   have hdw:=Kb.out.upd (((Upd.refl (fun _=>False) w).drewN q)) (fun _ _ h=>h)
   have hdw2:=hid (hdw.upd (Upd.cell_only (w.drewN q) r.p 9 (.int .i64 (wrap64 (r.cnt.reads+1)))) Kf.out)
   obtain ⟨wq,hwq⟩:∃wq,wq=w.drewN q:=⟨_,rfl⟩
   rw [←hwq] at c9 f9 hpq hst hdw2⊢
   clear hwq hdw
   have hin2:a+m≤q1:=by have:=Ka.out;omega
   have hin3:(a:Int)+(m:Int)≤(q1:Int):=by omega
   have hin4:(a:Int)+(m:Int)≤(len:Int):=by omega
   have Ke:=hid (show w.heap.size≤(wq.setCell ⟨r.p,9,none⟩ (.int .i64 (wrap64 (r.cnt.reads+1)))).heap.size from hst.out.upd.size)
   cases p1 with
   | none=>
    obtain ⟨hD0,rfl⟩:=Kc.out rfl
    obtain ⟨rfl,rfl⟩:a=0∧m=0:=by have:=Ka.out;rw [hD0] at this;simp at this;omega
    go_wp2_with fail
    all_goals
     refine (refCopied_any (bs:=(D.drop 0).take 0) ⟨none,0,by simp,(fun _=>⟨by simp,rfl⟩),(fun a ha=>by cases ha)⟩ (by simp)).mono ?_
     rintro e w3 ⟨v',rfl,hd,hdo,hu⟩
     have H1:=hid hd;have H2:=hid hdo;have H3:=hid hu
     clear hd hdo hu
     go_wp2
     go_ret2
     exact ⟨v',_,rfl,H1.out,(fun b hb=>Nat.le_trans Ke.out (H2.out b hb)),hst.out.trans (RStep.of_upd hst.out.ins H3.out),rfl,rfl⟩
   | some ad=>
    obtain ⟨z1,z2,-,-⟩:=Kd.out ad rfl
    obtain ⟨gd,od,spd⟩:=ad
    simp only at z1 z2
    subst z1 z2
    have HB:=hid (fun c=>DataIs.part hdw2.out (a:=a) (k:=m) (by rw [←Ka.out];exact hin) c)
    by_cases hqa:q1=a
    ·obtain rfl:m=0:=by omega
     go_wp2_with fail
     all_goals
      refine (refCopied_any (bs:=(D.drop a).take 0) ⟨some ⟨gd,0,none⟩,0,by simp,(fun h=>by cases h),(fun x _ j u hu=>by simp at hu)⟩ (by simp)).mono ?_
      rintro e w3 ⟨v',rfl,hd,hdo,hu⟩
      have H1:=hid hd;have H2:=hid hdo;have H3:=hid hu
      clear hd hdo hu
      go_wp2
      go_ret2
      exact ⟨v',_,rfl,H1.out,(fun b hb=>Nat.le_trans Ke.out (H2.out b hb)),hst.out.trans (RStep.of_upd hst.out.ins H3.out),rfl,rfl⟩
    ·go_wp2_with fail
     all_goals
      refine (refCopied_any (HB.out _) (by simp;omega)).mono ?_
      rintro e w3 ⟨v',rfl,hd,hdo,hu⟩
      have H1:=hid hd;have H2:=hid hdo;have H3:=hid hu
      clear hd hdo hu
      go_wp2
      go_ret2
      exact ⟨v',_,rfl,H1.out,(fun b hb=>Nat.le_trans Ke.out (H2.out b hb)),hst.out.trans (RStep.of_upd hst.out.ins H3.out),rfl,rfl⟩
 ·rw [if_pos (by simpa using h0)]
  obtain ⟨e0,he0⟩:∃e0,e0=lookC r.abs n true:=⟨_,rfl⟩
  rw [←he0] at h0 hk⊢
  have hb:(e0 != 0)=true:=by simpa using h0
  have HK:=hid hk
  clear h0 he0 hk hr
  go_enter Tryz.func161,Tryz.ntmps161
  go_wp2_with (go_at_call 178;refine HK.out.mono ?_;rintro e w' ⟨rfl,hww⟩;obtain rfl:=hww.symm)
  go_ret2
  exact ⟨.slice none 0 0,r,rfl,.inl ⟨rfl,rfl⟩,noneOwn _,RStep.refl HR.out,rfl,rfl⟩
end Go.Proofs.YtgaidmohdhaonaaGreatDoor
