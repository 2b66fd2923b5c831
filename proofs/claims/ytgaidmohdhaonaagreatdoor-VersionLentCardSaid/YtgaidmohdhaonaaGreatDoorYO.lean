/-
  Package strataref2, walked: ParseKey.
-/
import Derived.Test.YtgaidmohdhaonaaGreatDoorYN
import Derived.Test.YtgaidmohdhaonaaGreatDoorYC
import Derived.Test.YtgaidmohdhaonaaGreatDoorYG
set_option linter.unusedVariables false
set_option linter.unusedSimpArgs false
set_option linter.unnecessarySimpa false
set_option linter.unusedSectionVars false
set_option maxRecDepth 100000
set_option maxHeartbeats 12800000
namespace Go.Proofs.YtgaidmohdhaonaaGreatDoor
open Go Go.RowKit
abbrev entZ:Array Value:=entC (.slice none 0 0) 0 (.slice none 0 0) 0 0 0
structure PK (w W:World) (p2 p4 p5:Nat) (r:Value) (rb:List UInt8) (f:Int) (q:Value) (qb:List UInt8) (t s k:Int):Prop where
 upd:Upd (fun _=>False) w W
 h2:W.heap[p2]? = some (.cells entZ 215 (0,0))
 h4:W.heap[p4]? = some (.cells entZ 215 (0,0))
 h5:W.heap[p5]? = some (.cells (entC r f q t s k) 215 (0,0))
 n2:w.heap.size≤p2
 n5:w.heap.size≤p5
 e24:p2≠p4
 e25:p2≠p5
 e45:p4≠p5
 dr:DataIs W r rb
 dq:DataIs W q qb
theorem PK.keep {w W W':World} {p2 p4 p5:Nat} {r q:Value} {rb qb:List UInt8} {f t s k:Int} (h:PK w W p2 p4 p5 r rb f q qb t s k) (hu:Upd (fun _=>False) W W'):PK w W' p2 p4 p5 r rb f q qb t s k:=
 ⟨h.upd.trans hu (fun _ _ e=>e),hu.get h.h2 (fun e=>e),hu.get h.h4 (fun e=>e),hu.get h.h5 (fun e=>e),h.n2,h.n5,h.e24,h.e25,h.e45,h.dr.upd hu (fun _ _ e=>e),h.dq.upd hu (fun _ _ e=>e)⟩
theorem PK.set {w W:World} {p2 p4 p5:Nat} {r q r' q':Value} {rb qb rb' qb':List UInt8} {f t s k f' t' s' k':Int} (h:PK w W p2 p4 p5 r rb f q qb t s k) (j:Nat) (v:Value) (hv:(entC r f q t s k).setIfInBounds j v=entC r' f' q' t' s' k') (hr:DataIs W r' rb') (hq:DataIs W q' qb'):PK w (W.setCell ⟨p5,j,none⟩ v) p2 p4 p5 r' rb' f' q' qb' t' s' k':=by
 have hu:Upd (fun k=>k=p5) W (W.setCell ⟨p5,j,none⟩ v):=Upd.cell_only W p5 j v
 have hT:∀k,k=p5→∀cur fr,W.heap[k]?≠some (.cells cur 5 fr):=by
  rintro k rfl cur fr
  exact not_ty h.h5 (by decide) cur fr
 exact ⟨h.upd.trans hu (fun k hk e=>by have:=h.n5;omega),hu.get h.h2 (fun e=>h.e25 e),hu.get h.h4 (fun e=>h.e45 e),by rw [heap_setCell_at _ _ _ _ _ _ h.h5,hv],h.n2,h.n5,h.e24,h.e25,h.e45,hr.keepT hu hT,hq.keepT hu hT⟩
theorem entFroz {W:World} {p:Nat} {cs:Array Value} (h:W.heap[p]? = some (.cells cs 215 (0,0))) :
  W.frozen? ⟨p,0,none⟩=false∧W.frozen? ⟨p,1,none⟩=false∧W.frozen? ⟨p,2,none⟩=false∧W.frozen? ⟨p,3,none⟩=false∧W.frozen? ⟨p,4,none⟩=false∧W.frozen? ⟨p,5,none⟩=false∧W.frozen? ⟨p,6,none⟩=false:=
 ⟨frozen_of_row _ _ _ _ _ h,frozen_of_row _ _ _ _ _ h,frozen_of_row _ _ _ _ _ h,frozen_of_row _ _ _ _ _ h,frozen_of_row _ _ _ _ _ h,frozen_of_row _ _ _ _ _ h,frozen_of_row _ _ _ _ _ h⟩
theorem PK.outz {w W:World} {p2 p4 p5:Nat} {r q:Value} {rb qb:List UInt8} {f t s k:Int} (h:PK w W p2 p4 p5 r rb f q qb t s k) :
  (entOut W p2 (.slice none 0 0) 0 (.slice none 0 0) 0 0 0).heap[p2]? = some (.cells entZ 215 (0,0))∧Upd (fun _=>False) w (entOut W p2 (.slice none 0 0) 0 (.slice none 0 0) 0 0 0):=
 ⟨entOut_at h.h2 _ _ _ _ _ _,entOut_upd h.upd (fun e=>by have:=h.n2;omega) _ _ _ _ _ _⟩
theorem PK.out {w W:World} {p2 p4 p5:Nat} {r q:Value} {rb qb:List UInt8} {f t s k:Int} (h:PK w W p2 p4 p5 r rb f q qb t s k) :
  (entOut W p2 r f q t s k).heap[p2]? = some (.cells (entC r f q t s k) 215 (0,0))∧Upd (fun _=>False) w (entOut W p2 r f q t s k):=
 ⟨entOut_at h.h2 _ _ _ _ _ _,entOut_upd h.upd (fun e=>by have:=h.n2;omega) _ _ _ _ _ _⟩
theorem isKeyB_none {b:List UInt8} (h:parseP b=none):isKeyB b=false:=by unfold isKeyB;rw [h]
theorem isKeyB_some {b:List UInt8} {e:EntA} {p:Nat} (h:parseP b=some (e,p)):isKeyB b=decide (e.bad=0∧e.key=b):=by unfold isKeyB;rw [h]
theorem isKeyB_end {b:List UInt8} {e:EntA} {p:Nat} (h:parseP b=some (e,p)) (hp:p+1≠b.length):isKeyB b=false:=by
 rw [isKeyB_some h,decide_eq_false_iff_not]
 rintro ⟨-,h2⟩
 exact hp (parse_end h h2)
theorem refParseKey_any {w:World} {v:Value} {b:List UInt8} (hv:BAt w v b) (hl:b.length≤140737488351232) :
  Calls Tryz.prog 166 #[v] w fun e w'=>∃a1 n1 c1 f a2 n2 c2 t s k,e=.returned (.tuple #[.agg (entC (.slice a1 n1 c1) f (.slice a2 n2 c2) t s k),.int .i64 (if isKeyB b then 0 else 27)])∧Upd (fun _=>False) w w':=by
 have HV:=hid hv
 obtain ⟨ao,cap,rfl,h1,h2,-,-⟩:=hv
 obtain ⟨R,hR⟩:∃R:Int,R=if isKeyB b then 0 else 27:=⟨_,rfl⟩
 rw [←hR]
 have Kc:=hid hR
 clear hR
 have HZ:=hid (show parseP b=parseP b from rfl)
 have hpk:PK w (((w.alloc (.cells entZ 215)).alloc (.cells entZ 215)).alloc (.cells entZ 215)) w.heap.size (w.heap.size+1) (w.heap.size+1+1) (.slice none 0 0) [] 0 (.slice none 0 0) [] 0 0 0:=by
  have k0:=heap_alloc_new w (.cells entZ 215)
  have k1:=heap_alloc_new (w.alloc (.cells entZ 215)) (.cells entZ 215)
  have k2:=heap_alloc_new ((w.alloc (.cells entZ 215)).alloc (.cells entZ 215)) (.cells entZ 215)
  have u1:Upd (fun _=>False) (w.alloc (.cells entZ 215)) ((w.alloc (.cells entZ 215)).alloc (.cells entZ 215)):=(Upd.refl _ _).alloc _
  have u2:Upd (fun _=>False) ((w.alloc (.cells entZ 215)).alloc (.cells entZ 215)) (((w.alloc (.cells entZ 215)).alloc (.cells entZ 215)).alloc (.cells entZ 215)):=(Upd.refl _ _).alloc _
  refine ⟨(((Upd.refl _ w).alloc _).alloc _).alloc _,u2.get (u1.get k0 (fun e=>e)) (fun e=>e),u2.get (by simpa using k1) (fun e=>e),by simpa using k2,by omega,by omega,by omega,by omega,by omega,.inl ⟨rfl,rfl⟩,.inl ⟨rfl,rfl⟩⟩
 change PK w (((w.alloc (.cells #[.slice none 0 0,.int .i64 0,.slice none 0 0,.int .i64 0,.int .i64 0,.int .i64 0,.slice none 0 0] 215)).alloc (.cells #[.slice none 0 0,.int .i64 0,.slice none 0 0,.int .i64 0,.int .i64 0,.int .i64 0,.slice none 0 0] 215)).alloc (.cells #[.slice none 0 0,.int .i64 0,.slice none 0 0,.int .i64 0,.int .i64 0,.int .i64 0,.slice none 0 0] 215)) w.heap.size (w.heap.size+1) (w.heap.size+1+1) (.slice none 0 0) [] 0 (.slice none 0 0) [] 0 0 0 at hpk
 go_enter Tryz.func166,Tryz.ntmps166
 go_upto_region 3 with fail
 generalize ((w.alloc (.cells #[.slice none 0 0,.int .i64 0,.slice none 0 0,.int .i64 0,.int .i64 0,.int .i64 0,.slice none 0 0] 215)).alloc (.cells #[.slice none 0 0,.int .i64 0,.slice none 0 0,.int .i64 0,.int .i64 0,.int .i64 0,.slice none 0 0] 215)).alloc (.cells #[.slice none 0 0,.int .i64 0,.slice none 0 0,.int .i64 0,.int .i64 0,.int .i64 0,.slice none 0 0] 215)=W0 at hpk⊢
 have Ka:=hid hpk
 clear hpk
 obtain ⟨p5,hp5⟩:∃p5,p5=w.heap.size+1+1:=⟨_,rfl⟩
 obtain ⟨p4,hp4⟩:∃p4,p4=w.heap.size+1:=⟨_,rfl⟩
 obtain ⟨p2,hp2⟩:∃p2,p2=w.heap.size:=⟨_,rfl⟩
 rw [←hp5,←hp4,←hp2] at Ka⊢
 have Ks:=hid (refReadOrdered_any (HV.out.keep Ka.out.upd) (Nat.zero_le _) hl)
 obtain ⟨⟨row,ar,er⟩,hRO⟩:∃F,F=readO b 0:=⟨_,rfl⟩
 rw [←hRO] at Ks
 simp only at Ks
 have Ko:=hid hRO
 clear hRO
 clear hp2 hp4 hp5
 go_wp2_with fail
 refine Ks.out.mono ?_
 rintro e W1 ⟨v1,rfl,hn1⟩
 have Zd:=hid (Ka.out.keep hn1.upd)
 have Kx:=hid hn1.data
 obtain ⟨xr,yr,hv1,-,-⟩:=hn1.shape
 subst hv1
 clear hn1 Ka
 rename Hid (PK w W1 p2 p4 p5 _ _ _ _ _ _ _ _)=>Ka
 by_cases h1e:er=0
 ·subst h1e
  have harl:ar≤b.length:=by have h:=(readO_back (b:=b) (a:=0) (by rw [←Ko.out])).2.2;rw [←Ko.out] at h;exact h
  by_cases h2e:b.length<ar+2
  ·have h2i:(b.length:Int)<((ar:Nat):Int)+2:=by omega
   have HK:=hid (show isKeyB b=false from by
    refine isKeyB_none ?_
    unfold parseP
    rw [←Ko.out]
    simp only
    rw [if_pos (.inr h2e)])
   clear h2e
   have HF:=hid (show R=27 from by rw [Kc.out,HK.out];rfl)
   have HO:=hid Ka.out.outz
   obtain ⟨b0,b1,b2,b3,b4,b5,l4⟩:=entCells Ka.out.h4
   have b6:=cell_of_row _ _ 6 _ _ _ Ka.out.h4
   obtain ⟨z0,z1,z2,z3,z4,z5,z6⟩:=entFroz Ka.out.h2
   obtain ⟨w0,w1,w2,w3,w4,w5,l2⟩:=entCells Ka.out.h2
   have w6:=cell_of_row _ _ 6 _ _ _ Ka.out.h2
   go_wp2
   (try simp only [Exit.inBlock,Exit.then])
   refine bodyPost_ret (results_ent rfl _ _ p2 _ rfl rfl HO.out.1) rfl ?_
   exact ⟨none,0,0,0,none,0,0,0,0,0,by rw [HF.out];rfl,HO.out.2⟩
  ·have h2i:¬(b.length:Int)<((ar:Nat):Int)+2:=by omega
   have har:ar<b.length:=by omega
   have har1:ar+1<b.length:=by omega
   obtain ⟨g0,o0,hg0,hgl,d0⟩:=(HV.out.keep Ka.out.upd).cell har
   obtain ⟨g1,o1,hg1,-,d1⟩:=(HV.out.keep Ka.out.upd).cell har1
   subst hg0
   injection hg1 with hg1
   injection hg1 with hg11 hg12
   subst hg11
   subst hg12
   have Kn:=hid (show parseP b=if ((b[ar+1]'har1).toNat)=0 then parseT b row (((b[ar]'har).toNat:Nat):Int) [] (ar+2) else if (readO b (ar+2)).2.2≠0∨b.length≤(readO b (ar+2)).2.1 then none else parseT b row (((b[ar]'har).toNat:Nat):Int) (readO b (ar+2)).1 ((readO b (ar+2)).2.1+1) from by
    unfold parseP
    rw [←Ko.out]
    simp only
    rw [if_neg (by omega),getD_at har1,getD_at har])
   obtain ⟨g2,o2,hg2,hg2l,-⟩:=HV.out.cell har
   injection hg2 with hg2
   injection hg2 with hg21 hg22
   subst hg21
   subst hg22
   have hgp:g0≠p5:=by have:=Ka.out.n5;omega
   have hgp':p5≠g0:=hgp.symm
   generalize b[ar]'har=fc at d0 Kn
   obtain ⟨qc,hqc⟩:∃qc,qc=b[ar+1]'har1:=⟨_,rfl⟩
   rw [←hqc] at d1 Kn
   have Kt:=hid hqc.symm
   clear hqc
   have hf8:=fc.toNat_lt;have hq8:=qc.toNat_lt
   have Kl:=hid (Ka.out.set (r':=.slice xr row.length yr) (f':=0) (q':=.slice none 0 0) (t':=0) (s':=0) (k':=0) 0 (.slice xr row.length yr) rfl Kx.out Ka.out.dq)
   have Ky:=hid (Kl.out.set (r':=.slice xr row.length yr) (f':=((fc.toNat:Nat):Int)) (q':=.slice none 0 0) (t':=0) (s':=0) (k':=0) 1 (.int .i64 ((fc.toNat:Nat):Int)) rfl Kl.out.dr Kl.out.dq)
   obtain ⟨a0,a1,a2,a3,a4,a5,l5⟩:=entCells Ka.out.h5
   have a6:=cell_of_row _ _ 6 _ _ _ Ka.out.h5
   obtain ⟨y0,y1,y2,y3,y4,y5,y6⟩:=entFroz Ka.out.h5
   go_upto_region 8 with fail
   obtain ⟨W2,hW2⟩:∃W2,W2=(W1.setCell ⟨p5,0,none⟩ (.slice xr row.length yr)).setCell ⟨p5,1,none⟩ (.int .i64 ((fc.toNat:Nat):Int)):=⟨_,rfl⟩
   clear a0 a1 a2 a3 a4 a5 a6 l5 y0 y1 y2 y3 y4 y5 y6 Ka Kl d0 d1
   rw [←hW2] at Ky⊢
   clear hW2
   rename Hid (PK w W2 p2 p4 p5 _ _ _ _ _ _ _ _)=>Ka
   obtain ⟨g3,o3,hg3,hg3l,d1⟩:=(HV.out.keep Ka.out.upd).cell har1
   injection hg3 with hg3
   injection hg3 with hg31 hg32
   subst hg31
   subst hg32
   rw [Kt.out] at d1
   by_cases hz:qc.toNat=0
   ·have hpp:=Kn.out
    rw [if_pos hz] at hpp
    have hzi:(((qc.toNat:Nat):Int) != 0)=false:=by simp;omega
    obtain ⟨at1,hat1⟩:∃at1,at1=ar+2:=⟨_,rfl⟩
    have hat:at1≤b.length:=by omega
    have hati:((ar:Nat):Int)+2=((at1:Nat):Int):=by omega
    rw [←hat1] at hpp
    have HP:=hid hpp
    clear hz Kn hat1 Kt hpp
    have Kd:=hid (refReadFalling_any (HV.out.keep Ka.out.upd) hat hl)
    obtain ⟨⟨tn,a3',e3⟩,hF1⟩:∃F,F=readF b at1:=⟨_,rfl⟩
    rw [←hF1] at Kd
    simp only at Kd
    have Kb:=hid hF1
    obtain ⟨a0,a1,a2,a3,a4,a5,l5⟩:=entCells Ka.out.h5
    have a6:=cell_of_row _ _ 6 _ _ _ Ka.out.h5
    obtain ⟨y0,y1,y2,y3,y4,y5,y6⟩:=entFroz Ka.out.h5
    clear hF1
    go_wp2_with fail
    refine Kd.out.mono ?_
    rintro e w' ⟨rfl,hww⟩
    obtain rfl:=hww.symm
    have Kz:=hid (Ka.out.set (r':=(.slice xr row.length yr)) (f':=((fc.toNat:Nat):Int)) (q':=(.slice none 0 0)) (t':=(tn:Int)) (s':=0) (k':=0) 3 (.int .i64 (tn:Int)) rfl Ka.out.dr Ka.out.dq)
    by_cases h3:e3=0
    ·subst h3
     have ha3:a3'=at1+8:=by have h:=readF_end (b:=b) (a:=at1) (by rw [←Kb.out]);rw [←Kb.out] at h;exact h
     have ha3l:a3'≤b.length:=by
      have h1:=Kb.out
      unfold readF at h1
      split at h1
      ·simp at h1
      ·omega
     clear ha3
     have Ke:=hid (fun W (hu:Upd (fun _=>False) w W)=>refReadFalling_any (HV.out.keep hu) ha3l hl)
     obtain ⟨⟨sn,a4',e4⟩,hF2⟩:∃F,F=readF b a3':=⟨_,rfl⟩
     rw [←hF2] at Ke
     simp only at Ke
     have Kf:=hid hF2
     go_upto_region 18 with fail
     clear hF2 a0 a1 a2 a3 a4 a5 a6 l5 y0 y1 y2 y3 y4 y5 y6 Ka
     rename Hid (PK w _ p2 p4 p5 (.slice xr row.length yr) row ((fc.toNat:Nat):Int) (.slice none 0 0) [] (tn:Int) 0 0)=>Ka
     obtain ⟨W5,hW5⟩:∃W5,W5=W2.setCell ⟨p5,3,none⟩ (.int .i64 (tn:Int)):=⟨_,rfl⟩
     rw [←hW5] at Ka⊢
     clear hW5
     have Kp:=hid (Ke.out W5 Ka.out.upd)
     obtain ⟨a0,a1,a2,a3,a4,a5,l5⟩:=entCells Ka.out.h5
     have a6:=cell_of_row _ _ 6 _ _ _ Ka.out.h5
     obtain ⟨y0,y1,y2,y3,y4,y5,y6⟩:=entFroz Ka.out.h5
     go_wp2_with fail
     refine Kp.out.mono ?_
     rintro e w' ⟨rfl,hww⟩
     obtain rfl:=hww.symm
     have Kr:=hid (Ka.out.set (r':=(.slice xr row.length yr)) (f':=((fc.toNat:Nat):Int)) (q':=(.slice none 0 0)) (t':=(tn:Int)) (s':=(sn:Int)) (k':=0) 4 (.int .i64 (sn:Int)) rfl Ka.out.dr Ka.out.dq)
     go_upto_region 19 with fail
     clear a0 a1 a2 a3 a4 a5 a6 l5 y0 y1 y2 y3 y4 y5 y6 Ka
     rename Hid (PK w _ p2 p4 p5 (.slice xr row.length yr) row ((fc.toNat:Nat):Int) (.slice none 0 0) [] (tn:Int) (sn:Int) 0)=>Ka
     obtain ⟨W6,hW6⟩:∃W6,W6=W5.setCell ⟨p5,4,none⟩ (.int .i64 (sn:Int)):=⟨_,rfl⟩
     rw [←hW6] at Ka⊢
     clear hW6
     have ha4l:a4'≤b.length:=by
      have h1:=Kf.out
      unfold readF at h1
      split at h1
      ·simp at h1;omega
      ·split at h1
       ·simp at h1;omega
       ·simp at h1;omega
     by_cases h4:e4=0
     ·subst h4
      by_cases h5:a4'+1=b.length
      ·have h5i:(((a4':Nat):Int)+1 != (b.length:Int))=false:=by simp;omega
       have hab:a4'<b.length:=by omega
       obtain ⟨g9,o9,hg9,hgl9,d0⟩:=(HV.out.keep Ka.out.upd).cell hab
       injection hg9 with hg9
       injection hg9 with hg91 hg92
       subst hg91
       subst hg92
       have Ki:=hid (show parseP b=some (⟨row,((fc.toNat:Nat):Int),[],(tn:Int),(sn:Int),(((b[a4']'hab).toNat:Nat):Int)⟩,a4') from by
        rw [HP.out]
        unfold parseT
        rw [←Kb.out]
        simp only
        rw [if_neg (by simp),←Kf.out]
        simp only
        rw [if_neg (by omega),getD_at hab])
       generalize b[a4']'hab=kc at d0 Ki
       have hk8:=kc.toNat_lt
       have Za:=hid (Ka.out.set (r':=(.slice xr row.length yr)) (f':=((fc.toNat:Nat):Int)) (q':=(.slice none 0 0)) (t':=(tn:Int)) (s':=(sn:Int)) (k':=((kc.toNat:Nat):Int)) 5 (.int .i64 ((kc.toNat:Nat):Int)) rfl Ka.out.dr Ka.out.dq)
       obtain ⟨a0,a1,a2,a3,a4,a5,l5⟩:=entCells Ka.out.h5
       have a6:=cell_of_row _ _ 6 _ _ _ Ka.out.h5
       obtain ⟨y0,y1,y2,y3,y4,y5,y6⟩:=entFroz Ka.out.h5
       go_upto_region 22 with fail
       clear a0 a1 a2 a3 a4 a5 a6 l5 y0 y1 y2 y3 y4 y5 y6 Ka d0
       rename Hid (PK w _ p2 p4 p5 (.slice xr row.length yr) row ((fc.toNat:Nat):Int) (.slice none 0 0) [] (tn:Int) (sn:Int) ((kc.toNat:Nat):Int))=>Ka
       obtain ⟨W7,hW7⟩:∃W7,W7=W6.setCell ⟨p5,5,none⟩ (.int .i64 ((kc.toNat:Nat):Int)):=⟨_,rfl⟩
       rw [←hW7] at Ka⊢
       clear hW7
       have hent:EntAt W7 (.agg (entC (.slice xr row.length yr) ((fc.toNat:Nat):Int) (.slice none 0 0) (tn:Int) (sn:Int) ((kc.toNat:Nat):Int))) ⟨row,((fc.toNat:Nat):Int),[],(tn:Int),(sn:Int),((kc.toNat:Nat):Int)⟩:=⟨⟨xr,yr,none,0,rfl,Ka.out.dr.bat,Ka.out.dq.bat⟩⟩
       have Kg:=hid hent
       obtain ⟨k0,hk0⟩:∃k0:Int,k0=((kc.toNat:Nat):Int):=⟨_,rfl⟩
       rw [←hk0] at Kg Ki Ka
       clear hent
       try rw [←hk0]
       clear hk0
       obtain ⟨a0,a1,a2,a3,a4,a5,l5⟩:=entCells Ka.out.h5
       have a6:=cell_of_row _ _ 6 _ _ _ Ka.out.h5
       obtain ⟨y0,y1,y2,y3,y4,y5,y6⟩:=entFroz Ka.out.h5
       by_cases hbad:EntA.bad ⟨row,((fc.toNat:Nat):Int),[],(tn:Int),(sn:Int),k0⟩=0
       ·have Kh:=hid (refKey2_any Kg.out hbad)
        have Kk:=hid (show isKeyB b=decide (EntA.key ⟨row,((fc.toNat:Nat):Int),[],(tn:Int),(sn:Int),k0⟩=b) from by rw [isKeyB_some Ki.out];simp [hbad])
        generalize EntA.key ⟨row,((fc.toNat:Nat):Int),[],(tn:Int),(sn:Int),k0⟩=ky at Kh Kk
        clear hbad
        go_wp2_with fail
        refine Kh.out.mono ?_
        rintro e W8 ⟨vk,rfl,hnk⟩
        have Kj:=hid (Ka.out.keep hnk.upd)
        have Ku:=hid (refSame_any hnk.data.bat (HV.out.keep Kj.out.upd))
        clear a0 a1 a2 a3 a4 a5 a6 l5 y0 y1 y2 y3 y4 y5 y6 Ka hnk
        rename Hid (PK w W8 p2 p4 p5 _ _ _ _ _ _ _ _)=>Ka
        go_wp2_with fail
        refine Ku.out.mono ?_
        rintro e w' ⟨rfl,hww⟩
        obtain rfl:=hww.symm
        by_cases hk:ky=b
        ·have hkd:decide (ky=b)=true:=by simpa using hk
         rw [hkd]
         have HF:=hid (show R=0 from by rw [Kc.out,Kk.out,hkd];rfl)
         clear hk hkd
         obtain ⟨a0,a1,a2,a3,a4,a5,l5⟩:=entCells Ka.out.h5
         have a6:=cell_of_row _ _ 6 _ _ _ Ka.out.h5
         obtain ⟨y0,y1,y2,y3,y4,y5,y6⟩:=entFroz Ka.out.h5
         obtain ⟨z0,z1,z2,z3,z4,z5,z6⟩:=entFroz Ka.out.h2
         obtain ⟨w0,w1,w2,w3,w4,w5,l2⟩:=entCells Ka.out.h2
         have w6:=cell_of_row _ _ 6 _ _ _ Ka.out.h2
         have n25:p2≠p5:=Ka.out.e25
         have n52:p5≠p2:=n25.symm
         have HO:=hid Ka.out.out
         go_wp2
         (try simp only [Exit.inBlock,Exit.then])
         refine bodyPost_ret (results_ent rfl _ _ p2 _ rfl rfl HO.out.1) rfl ?_
         exact ⟨_,_,_,_,_,_,_,_,_,_,by rw [HF.out];rfl,HO.out.2⟩
        ·have hkd:decide (ky=b)=false:=by simpa using hk
         rw [hkd]
         have HK:=hid (show isKeyB b=false from by rw [Kk.out,hkd])
         clear hk hkd
         have HF:=hid (show R=27 from by rw [Kc.out,HK.out];rfl)
         have HO:=hid Ka.out.outz
         obtain ⟨b0,b1,b2,b3,b4,b5,l4⟩:=entCells Ka.out.h4
         have b6:=cell_of_row _ _ 6 _ _ _ Ka.out.h4
         obtain ⟨z0,z1,z2,z3,z4,z5,z6⟩:=entFroz Ka.out.h2
         obtain ⟨w0,w1,w2,w3,w4,w5,l2⟩:=entCells Ka.out.h2
         have w6:=cell_of_row _ _ 6 _ _ _ Ka.out.h2
         go_wp2
         (try simp only [Exit.inBlock,Exit.then])
         refine bodyPost_ret (results_ent rfl _ _ p2 _ rfl rfl HO.out.1) rfl ?_
         exact ⟨none,0,0,0,none,0,0,0,0,0,by rw [HF.out];rfl,HO.out.2⟩
       ·have Kh:=hid (refKey2_bad (w:=W7) Kg.out.is hbad)
        have HK:=hid (show isKeyB b=false from by rw [isKeyB_some Ki.out,decide_eq_false_iff_not];exact fun e=>hbad e.1)
        have hbi:(EntA.bad ⟨row,((fc.toNat:Nat):Int),[],(tn:Int),(sn:Int),k0⟩ != 0)=true:=by simpa using hbad
        generalize EntA.bad ⟨row,((fc.toNat:Nat):Int),[],(tn:Int),(sn:Int),k0⟩=eb at Kh hbi
        clear hbad
        go_wp2_with fail
        refine Kh.out.mono ?_
        rintro e W8 ⟨rfl,huk⟩
        have Kj:=hid (Ka.out.keep huk)
        clear a0 a1 a2 a3 a4 a5 a6 l5 y0 y1 y2 y3 y4 y5 y6 Ka huk
        rename Hid (PK w W8 p2 p4 p5 _ _ _ _ _ _ _ _)=>Ka
        have HF:=hid (show R=27 from by rw [Kc.out,HK.out];rfl)
        have HO:=hid Ka.out.outz
        obtain ⟨b0,b1,b2,b3,b4,b5,l4⟩:=entCells Ka.out.h4
        have b6:=cell_of_row _ _ 6 _ _ _ Ka.out.h4
        obtain ⟨z0,z1,z2,z3,z4,z5,z6⟩:=entFroz Ka.out.h2
        obtain ⟨w0,w1,w2,w3,w4,w5,l2⟩:=entCells Ka.out.h2
        have w6:=cell_of_row _ _ 6 _ _ _ Ka.out.h2
        go_wp2
        (try simp only [Exit.inBlock,Exit.then])
        refine bodyPost_ret (results_ent rfl _ _ p2 _ rfl rfl HO.out.1) rfl ?_
        exact ⟨none,0,0,0,none,0,0,0,0,0,by rw [HF.out];rfl,HO.out.2⟩
      ·have h5i:(((a4':Nat):Int)+1 != (b.length:Int))=true:=by simp;omega
       have HK:=hid (show isKeyB b=false from by
        by_cases h6:b.length≤a4'
        ·refine isKeyB_none ?_
         rw [HP.out]
         unfold parseT
         rw [←Kb.out]
         simp only
         rw [if_neg (by simp),←Kf.out]
         simp only
         rw [if_pos (.inr h6)]
        ·refine isKeyB_end (e:=⟨row,((fc.toNat:Nat):Int),[],(tn:Int),(sn:Int),((b.getD a4' 0).toNat:Int)⟩) (p:=a4') ?_ h5
         rw [HP.out]
         unfold parseT
         rw [←Kb.out]
         simp only
         rw [if_neg (by simp),←Kf.out]
         simp only
         rw [if_neg (by omega)])
       clear h5
       have HF:=hid (show R=27 from by rw [Kc.out,HK.out];rfl)
       have HO:=hid Ka.out.outz
       obtain ⟨b0,b1,b2,b3,b4,b5,l4⟩:=entCells Ka.out.h4
       have b6:=cell_of_row _ _ 6 _ _ _ Ka.out.h4
       obtain ⟨z0,z1,z2,z3,z4,z5,z6⟩:=entFroz Ka.out.h2
       obtain ⟨w0,w1,w2,w3,w4,w5,l2⟩:=entCells Ka.out.h2
       have w6:=cell_of_row _ _ 6 _ _ _ Ka.out.h2
       go_wp2
       (try simp only [Exit.inBlock,Exit.then])
       refine bodyPost_ret (results_ent rfl _ _ p2 _ rfl rfl HO.out.1) rfl ?_
       exact ⟨none,0,0,0,none,0,0,0,0,0,by rw [HF.out];rfl,HO.out.2⟩
     ·have h4i:(e4 != 0)=true:=by simpa using h4
      have HK:=hid (show isKeyB b=false from by
       refine isKeyB_none ?_
       rw [HP.out]
       unfold parseT
       rw [←Kb.out]
       simp only
       rw [if_neg (by simp),←Kf.out]
       simp only
       rw [if_pos (.inl h4)])
      clear h4
      have HF:=hid (show R=27 from by rw [Kc.out,HK.out];rfl)
      have HO:=hid Ka.out.outz
      obtain ⟨b0,b1,b2,b3,b4,b5,l4⟩:=entCells Ka.out.h4
      have b6:=cell_of_row _ _ 6 _ _ _ Ka.out.h4
      obtain ⟨z0,z1,z2,z3,z4,z5,z6⟩:=entFroz Ka.out.h2
      obtain ⟨w0,w1,w2,w3,w4,w5,l2⟩:=entCells Ka.out.h2
      have w6:=cell_of_row _ _ 6 _ _ _ Ka.out.h2
      go_wp2
      (try simp only [Exit.inBlock,Exit.then])
      refine bodyPost_ret (results_ent rfl _ _ p2 _ rfl rfl HO.out.1) rfl ?_
      exact ⟨none,0,0,0,none,0,0,0,0,0,by rw [HF.out];rfl,HO.out.2⟩
    ·have h3i:(e3 != 0)=true:=by simpa using h3
     have HK:=hid (show isKeyB b=false from by
      refine isKeyB_none ?_
      rw [HP.out]
      unfold parseT
      rw [←Kb.out]
      simp only
      rw [if_pos h3])
     go_upto_region 17 with fail
     clear h3 a0 a1 a2 a3 a4 a5 a6 l5 y0 y1 y2 y3 y4 y5 y6 Ka
     rename Hid (PK w _ p2 p4 p5 (.slice xr row.length yr) row ((fc.toNat:Nat):Int) (.slice none 0 0) [] (tn:Int) 0 0)=>Ka
     have HF:=hid (show R=27 from by rw [Kc.out,HK.out];rfl)
     have HO:=hid Ka.out.outz
     obtain ⟨b0,b1,b2,b3,b4,b5,l4⟩:=entCells Ka.out.h4
     have b6:=cell_of_row _ _ 6 _ _ _ Ka.out.h4
     obtain ⟨z0,z1,z2,z3,z4,z5,z6⟩:=entFroz Ka.out.h2
     obtain ⟨w0,w1,w2,w3,w4,w5,l2⟩:=entCells Ka.out.h2
     have w6:=cell_of_row _ _ 6 _ _ _ Ka.out.h2
     go_wp2
     (try simp only [Exit.inBlock,Exit.then])
     refine bodyPost_ret (results_ent rfl _ _ p2 _ rfl rfl HO.out.1) rfl ?_
     exact ⟨none,0,0,0,none,0,0,0,0,0,by rw [HF.out];rfl,HO.out.2⟩
   ·have hpp:=Kn.out
    rw [if_neg hz] at hpp
    have hzi:(((qc.toNat:Nat):Int) != 0)=true:=by simp;omega
    have har2:ar+2≤b.length:=by omega
    have Kq:=hid (refReadOrdered_any (HV.out.keep Ka.out.upd) har2 hl)
    rw [show ((ar+2:Nat):Int)=((ar:Nat):Int)+2 from by omega] at Kq
    obtain ⟨⟨qual,aq,eq⟩,hRQ⟩:∃F,F=readO b (ar+2):=⟨_,rfl⟩
    rw [←hRQ] at Kq hpp
    simp only at Kq hpp
    have Kv:=hid hRQ
    have Km:=hid hpp
    clear hRQ hz Kn Kt hpp
    go_wp2_with fail
    refine Kq.out.mono ?_
    rintro e W3 ⟨vq,rfl,hnq⟩
    have Kr:=hid (Ka.out.keep hnq.upd)
    have Zc:=hid hnq.data
    obtain ⟨xq,yq,hvq,-,-⟩:=hnq.shape
    subst hvq
    clear hnq Ka d1
    rename Hid (PK w W3 p2 p4 p5 _ _ _ _ _ _ _ _)=>Ka
    have Zb:=hid (Ka.out.set (r':=.slice xr row.length yr) (f':=((fc.toNat:Nat):Int)) (q':=.slice xq qual.length yq) (t':=0) (s':=0) (k':=0) 2 (.slice xq qual.length yq) rfl Ka.out.dr Zc.out)
    obtain ⟨a0,a1,a2,a3,a4,a5,l5⟩:=entCells Ka.out.h5
    have a6:=cell_of_row _ _ 6 _ _ _ Ka.out.h5
    obtain ⟨y0,y1,y2,y3,y4,y5,y6⟩:=entFroz Ka.out.h5
    have haqw:eq=0→aq≤b.length:=fun h=>by have h1:=(readO_back (b:=b) (a:=ar+2) (by rw [←Kv.out];exact h)).2.2;rw [←Kv.out] at h1;exact h1
    have haqb:aq≤9223372036854775000:=by
     by_cases h:eq=0
     ·have:=haqw h;omega
     ·have h1:=ro_err (b.drop (ar+2)) (ar+2) []
      have h2:readO b (ar+2)=ro (b.drop (ar+2)) (ar+2) []:=rfl
      rw [←h2,←Kv.out] at h1
      rcases h1 with h1|h1
      ·exact absurd h1 h
      ·have:=h1.2.1;simp only at this;omega
    go_upto_region 12 with fail
    clear a0 a1 a2 a3 a4 a5 a6 l5 y0 y1 y2 y3 y4 y5 y6 Ka
    obtain ⟨W4,hW4⟩:∃W4,W4=W3.setCell ⟨p5,2,none⟩ (.slice xq qual.length yq):=⟨_,rfl⟩
    rw [←hW4] at Zb⊢
    clear hW4
    rename Hid (PK w W4 p2 p4 p5 _ _ _ _ _ _ _ _)=>Ka
    by_cases heq:eq=0
    ·subst heq
     have haq:=haqw rfl
     by_cases hlq:b.length≤aq
     ·have hli:(b.length:Int)<((aq:Nat):Int)+1:=by omega
      have HK:=hid (show isKeyB b=false from by
       refine isKeyB_none ?_
       rw [Km.out,if_pos (.inr hlq)])
      clear hlq haqw
      have HF:=hid (show R=27 from by rw [Kc.out,HK.out];rfl)
      have HO:=hid Ka.out.outz
      obtain ⟨b0,b1,b2,b3,b4,b5,l4⟩:=entCells Ka.out.h4
      have b6:=cell_of_row _ _ 6 _ _ _ Ka.out.h4
      obtain ⟨z0,z1,z2,z3,z4,z5,z6⟩:=entFroz Ka.out.h2
      obtain ⟨w0,w1,w2,w3,w4,w5,l2⟩:=entCells Ka.out.h2
      have w6:=cell_of_row _ _ 6 _ _ _ Ka.out.h2
      go_wp2
      (try simp only [Exit.inBlock,Exit.then])
      refine bodyPost_ret (results_ent rfl _ _ p2 _ rfl rfl HO.out.1) rfl ?_
      exact ⟨none,0,0,0,none,0,0,0,0,0,by rw [HF.out];rfl,HO.out.2⟩
     ·have hli:¬(b.length:Int)<((aq:Nat):Int)+1:=by omega
      have Kw:=hid (show parseP b=parseT b row ((fc.toNat:Nat):Int) qual (aq+1) from by rw [Km.out,if_neg (by omega)])
      obtain ⟨at1,hat1⟩:∃at1,at1=aq+1:=⟨_,rfl⟩
      have hat:at1≤b.length:=by omega
      have hati:((aq:Nat):Int)+1=((at1:Nat):Int):=by omega
      rw [←hat1] at Kw
      have HP:=hid Kw.out
      clear hlq haqw hat1 Kw Km
      have Kd:=hid (refReadFalling_any (HV.out.keep Ka.out.upd) hat hl)
      obtain ⟨⟨tn,a3',e3⟩,hF1⟩:∃F,F=readF b at1:=⟨_,rfl⟩
      rw [←hF1] at Kd
      simp only at Kd
      have Kb:=hid hF1
      obtain ⟨a0,a1,a2,a3,a4,a5,l5⟩:=entCells Ka.out.h5
      have a6:=cell_of_row _ _ 6 _ _ _ Ka.out.h5
      obtain ⟨y0,y1,y2,y3,y4,y5,y6⟩:=entFroz Ka.out.h5
      clear hF1
      go_wp2_with fail
      refine Kd.out.mono ?_
      rintro e w' ⟨rfl,hww⟩
      obtain rfl:=hww.symm
      have Kz:=hid (Ka.out.set (r':=(.slice xr row.length yr)) (f':=((fc.toNat:Nat):Int)) (q':=(.slice xq qual.length yq)) (t':=(tn:Int)) (s':=0) (k':=0) 3 (.int .i64 (tn:Int)) rfl Ka.out.dr Ka.out.dq)
      by_cases h3:e3=0
      ·subst h3
       have ha3:a3'=at1+8:=by have h:=readF_end (b:=b) (a:=at1) (by rw [←Kb.out]);rw [←Kb.out] at h;exact h
       have ha3l:a3'≤b.length:=by
        have h1:=Kb.out
        unfold readF at h1
        split at h1
        ·simp at h1
        ·omega
       clear ha3
       have Ke:=hid (fun W (hu:Upd (fun _=>False) w W)=>refReadFalling_any (HV.out.keep hu) ha3l hl)
       obtain ⟨⟨sn,a4',e4⟩,hF2⟩:∃F,F=readF b a3':=⟨_,rfl⟩
       rw [←hF2] at Ke
       simp only at Ke
       have Kf:=hid hF2
       go_upto_region 18 with fail
       clear hF2 a0 a1 a2 a3 a4 a5 a6 l5 y0 y1 y2 y3 y4 y5 y6 Ka
       rename Hid (PK w _ p2 p4 p5 (.slice xr row.length yr) row ((fc.toNat:Nat):Int) (.slice xq qual.length yq) qual (tn:Int) 0 0)=>Ka
       obtain ⟨W5,hW5⟩:∃W5,W5=W4.setCell ⟨p5,3,none⟩ (.int .i64 (tn:Int)):=⟨_,rfl⟩
       rw [←hW5] at Ka⊢
       clear hW5
       have Kp:=hid (Ke.out W5 Ka.out.upd)
       obtain ⟨a0,a1,a2,a3,a4,a5,l5⟩:=entCells Ka.out.h5
       have a6:=cell_of_row _ _ 6 _ _ _ Ka.out.h5
       obtain ⟨y0,y1,y2,y3,y4,y5,y6⟩:=entFroz Ka.out.h5
       go_wp2_with fail
       refine Kp.out.mono ?_
       rintro e w' ⟨rfl,hww⟩
       obtain rfl:=hww.symm
       have Kr:=hid (Ka.out.set (r':=(.slice xr row.length yr)) (f':=((fc.toNat:Nat):Int)) (q':=(.slice xq qual.length yq)) (t':=(tn:Int)) (s':=(sn:Int)) (k':=0) 4 (.int .i64 (sn:Int)) rfl Ka.out.dr Ka.out.dq)
       go_upto_region 19 with fail
       clear a0 a1 a2 a3 a4 a5 a6 l5 y0 y1 y2 y3 y4 y5 y6 Ka
       rename Hid (PK w _ p2 p4 p5 (.slice xr row.length yr) row ((fc.toNat:Nat):Int) (.slice xq qual.length yq) qual (tn:Int) (sn:Int) 0)=>Ka
       obtain ⟨W6,hW6⟩:∃W6,W6=W5.setCell ⟨p5,4,none⟩ (.int .i64 (sn:Int)):=⟨_,rfl⟩
       rw [←hW6] at Ka⊢
       clear hW6
       have ha4l:a4'≤b.length:=by
        have h1:=Kf.out
        unfold readF at h1
        split at h1
        ·simp at h1;omega
        ·split at h1
         ·simp at h1;omega
         ·simp at h1;omega
       by_cases h4:e4=0
       ·subst h4
        by_cases h5:a4'+1=b.length
        ·have h5i:(((a4':Nat):Int)+1 != (b.length:Int))=false:=by simp;omega
         have hab:a4'<b.length:=by omega
         obtain ⟨g9,o9,hg9,hgl9,d0⟩:=(HV.out.keep Ka.out.upd).cell hab
         injection hg9 with hg9
         injection hg9 with hg91 hg92
         subst hg91
         subst hg92
         have Ki:=hid (show parseP b=some (⟨row,((fc.toNat:Nat):Int),qual,(tn:Int),(sn:Int),(((b[a4']'hab).toNat:Nat):Int)⟩,a4') from by
          rw [HP.out]
          unfold parseT
          rw [←Kb.out]
          simp only
          rw [if_neg (by simp),←Kf.out]
          simp only
          rw [if_neg (by omega),getD_at hab])
         generalize b[a4']'hab=kc at d0 Ki
         have hk8:=kc.toNat_lt
         have Za:=hid (Ka.out.set (r':=(.slice xr row.length yr)) (f':=((fc.toNat:Nat):Int)) (q':=(.slice xq qual.length yq)) (t':=(tn:Int)) (s':=(sn:Int)) (k':=((kc.toNat:Nat):Int)) 5 (.int .i64 ((kc.toNat:Nat):Int)) rfl Ka.out.dr Ka.out.dq)
         obtain ⟨a0,a1,a2,a3,a4,a5,l5⟩:=entCells Ka.out.h5
         have a6:=cell_of_row _ _ 6 _ _ _ Ka.out.h5
         obtain ⟨y0,y1,y2,y3,y4,y5,y6⟩:=entFroz Ka.out.h5
         go_upto_region 22 with fail
         clear a0 a1 a2 a3 a4 a5 a6 l5 y0 y1 y2 y3 y4 y5 y6 Ka d0
         rename Hid (PK w _ p2 p4 p5 (.slice xr row.length yr) row ((fc.toNat:Nat):Int) (.slice xq qual.length yq) qual (tn:Int) (sn:Int) ((kc.toNat:Nat):Int))=>Ka
         obtain ⟨W7,hW7⟩:∃W7,W7=W6.setCell ⟨p5,5,none⟩ (.int .i64 ((kc.toNat:Nat):Int)):=⟨_,rfl⟩
         rw [←hW7] at Ka⊢
         clear hW7
         have hent:EntAt W7 (.agg (entC (.slice xr row.length yr) ((fc.toNat:Nat):Int) (.slice xq qual.length yq) (tn:Int) (sn:Int) ((kc.toNat:Nat):Int))) ⟨row,((fc.toNat:Nat):Int),qual,(tn:Int),(sn:Int),((kc.toNat:Nat):Int)⟩:=⟨⟨xr,yr,xq,yq,rfl,Ka.out.dr.bat,Ka.out.dq.bat⟩⟩
         have Kg:=hid hent
         obtain ⟨k0,hk0⟩:∃k0:Int,k0=((kc.toNat:Nat):Int):=⟨_,rfl⟩
         rw [←hk0] at Kg Ki Ka
         clear hent
         try rw [←hk0]
         clear hk0
         obtain ⟨a0,a1,a2,a3,a4,a5,l5⟩:=entCells Ka.out.h5
         have a6:=cell_of_row _ _ 6 _ _ _ Ka.out.h5
         obtain ⟨y0,y1,y2,y3,y4,y5,y6⟩:=entFroz Ka.out.h5
         by_cases hbad:EntA.bad ⟨row,((fc.toNat:Nat):Int),qual,(tn:Int),(sn:Int),k0⟩=0
         ·have Kh:=hid (refKey2_any Kg.out hbad)
          have Kk:=hid (show isKeyB b=decide (EntA.key ⟨row,((fc.toNat:Nat):Int),qual,(tn:Int),(sn:Int),k0⟩=b) from by rw [isKeyB_some Ki.out];simp [hbad])
          generalize EntA.key ⟨row,((fc.toNat:Nat):Int),qual,(tn:Int),(sn:Int),k0⟩=ky at Kh Kk
          clear hbad
          go_wp2_with fail
          refine Kh.out.mono ?_
          rintro e W8 ⟨vk,rfl,hnk⟩
          have Kj:=hid (Ka.out.keep hnk.upd)
          have Ku:=hid (refSame_any hnk.data.bat (HV.out.keep Kj.out.upd))
          clear a0 a1 a2 a3 a4 a5 a6 l5 y0 y1 y2 y3 y4 y5 y6 Ka hnk
          rename Hid (PK w W8 p2 p4 p5 _ _ _ _ _ _ _ _)=>Ka
          go_wp2_with fail
          refine Ku.out.mono ?_
          rintro e w' ⟨rfl,hww⟩
          obtain rfl:=hww.symm
          by_cases hk:ky=b
          ·have hkd:decide (ky=b)=true:=by simpa using hk
           rw [hkd]
           have HF:=hid (show R=0 from by rw [Kc.out,Kk.out,hkd];rfl)
           clear hk hkd
           obtain ⟨a0,a1,a2,a3,a4,a5,l5⟩:=entCells Ka.out.h5
           have a6:=cell_of_row _ _ 6 _ _ _ Ka.out.h5
           obtain ⟨y0,y1,y2,y3,y4,y5,y6⟩:=entFroz Ka.out.h5
           obtain ⟨z0,z1,z2,z3,z4,z5,z6⟩:=entFroz Ka.out.h2
           obtain ⟨w0,w1,w2,w3,w4,w5,l2⟩:=entCells Ka.out.h2
           have w6:=cell_of_row _ _ 6 _ _ _ Ka.out.h2
           have n25:p2≠p5:=Ka.out.e25
           have n52:p5≠p2:=n25.symm
           have HO:=hid Ka.out.out
           go_wp2
           (try simp only [Exit.inBlock,Exit.then])
           refine bodyPost_ret (results_ent rfl _ _ p2 _ rfl rfl HO.out.1) rfl ?_
           exact ⟨_,_,_,_,_,_,_,_,_,_,by rw [HF.out];rfl,HO.out.2⟩
          ·have hkd:decide (ky=b)=false:=by simpa using hk
           rw [hkd]
           have HK:=hid (show isKeyB b=false from by rw [Kk.out,hkd])
           clear hk hkd
           have HF:=hid (show R=27 from by rw [Kc.out,HK.out];rfl)
           have HO:=hid Ka.out.outz
           obtain ⟨b0,b1,b2,b3,b4,b5,l4⟩:=entCells Ka.out.h4
           have b6:=cell_of_row _ _ 6 _ _ _ Ka.out.h4
           obtain ⟨z0,z1,z2,z3,z4,z5,z6⟩:=entFroz Ka.out.h2
           obtain ⟨w0,w1,w2,w3,w4,w5,l2⟩:=entCells Ka.out.h2
           have w6:=cell_of_row _ _ 6 _ _ _ Ka.out.h2
           go_wp2
           (try simp only [Exit.inBlock,Exit.then])
           refine bodyPost_ret (results_ent rfl _ _ p2 _ rfl rfl HO.out.1) rfl ?_
           exact ⟨none,0,0,0,none,0,0,0,0,0,by rw [HF.out];rfl,HO.out.2⟩
         ·have Kh:=hid (refKey2_bad (w:=W7) Kg.out.is hbad)
          have HK:=hid (show isKeyB b=false from by rw [isKeyB_some Ki.out,decide_eq_false_iff_not];exact fun e=>hbad e.1)
          have hbi:(EntA.bad ⟨row,((fc.toNat:Nat):Int),qual,(tn:Int),(sn:Int),k0⟩ != 0)=true:=by simpa using hbad
          generalize EntA.bad ⟨row,((fc.toNat:Nat):Int),qual,(tn:Int),(sn:Int),k0⟩=eb at Kh hbi
          clear hbad
          go_wp2_with fail
          refine Kh.out.mono ?_
          rintro e W8 ⟨rfl,huk⟩
          have Kj:=hid (Ka.out.keep huk)
          clear a0 a1 a2 a3 a4 a5 a6 l5 y0 y1 y2 y3 y4 y5 y6 Ka huk
          rename Hid (PK w W8 p2 p4 p5 _ _ _ _ _ _ _ _)=>Ka
          have HF:=hid (show R=27 from by rw [Kc.out,HK.out];rfl)
          have HO:=hid Ka.out.outz
          obtain ⟨b0,b1,b2,b3,b4,b5,l4⟩:=entCells Ka.out.h4
          have b6:=cell_of_row _ _ 6 _ _ _ Ka.out.h4
          obtain ⟨z0,z1,z2,z3,z4,z5,z6⟩:=entFroz Ka.out.h2
          obtain ⟨w0,w1,w2,w3,w4,w5,l2⟩:=entCells Ka.out.h2
          have w6:=cell_of_row _ _ 6 _ _ _ Ka.out.h2
          go_wp2
          (try simp only [Exit.inBlock,Exit.then])
          refine bodyPost_ret (results_ent rfl _ _ p2 _ rfl rfl HO.out.1) rfl ?_
          exact ⟨none,0,0,0,none,0,0,0,0,0,by rw [HF.out];rfl,HO.out.2⟩
        ·have h5i:(((a4':Nat):Int)+1 != (b.length:Int))=true:=by simp;omega
         have HK:=hid (show isKeyB b=false from by
          by_cases h6:b.length≤a4'
          ·refine isKeyB_none ?_
           rw [HP.out]
           unfold parseT
           rw [←Kb.out]
           simp only
           rw [if_neg (by simp),←Kf.out]
           simp only
           rw [if_pos (.inr h6)]
          ·refine isKeyB_end (e:=⟨row,((fc.toNat:Nat):Int),qual,(tn:Int),(sn:Int),((b.getD a4' 0).toNat:Int)⟩) (p:=a4') ?_ h5
           rw [HP.out]
           unfold parseT
           rw [←Kb.out]
           simp only
           rw [if_neg (by simp),←Kf.out]
           simp only
           rw [if_neg (by omega)])
         clear h5
         have HF:=hid (show R=27 from by rw [Kc.out,HK.out];rfl)
         have HO:=hid Ka.out.outz
         obtain ⟨b0,b1,b2,b3,b4,b5,l4⟩:=entCells Ka.out.h4
         have b6:=cell_of_row _ _ 6 _ _ _ Ka.out.h4
         obtain ⟨z0,z1,z2,z3,z4,z5,z6⟩:=entFroz Ka.out.h2
         obtain ⟨w0,w1,w2,w3,w4,w5,l2⟩:=entCells Ka.out.h2
         have w6:=cell_of_row _ _ 6 _ _ _ Ka.out.h2
         go_wp2
         (try simp only [Exit.inBlock,Exit.then])
         refine bodyPost_ret (results_ent rfl _ _ p2 _ rfl rfl HO.out.1) rfl ?_
         exact ⟨none,0,0,0,none,0,0,0,0,0,by rw [HF.out];rfl,HO.out.2⟩
       ·have h4i:(e4 != 0)=true:=by simpa using h4
        have HK:=hid (show isKeyB b=false from by
         refine isKeyB_none ?_
         rw [HP.out]
         unfold parseT
         rw [←Kb.out]
         simp only
         rw [if_neg (by simp),←Kf.out]
         simp only
         rw [if_pos (.inl h4)])
        clear h4
        have HF:=hid (show R=27 from by rw [Kc.out,HK.out];rfl)
        have HO:=hid Ka.out.outz
        obtain ⟨b0,b1,b2,b3,b4,b5,l4⟩:=entCells Ka.out.h4
        have b6:=cell_of_row _ _ 6 _ _ _ Ka.out.h4
        obtain ⟨z0,z1,z2,z3,z4,z5,z6⟩:=entFroz Ka.out.h2
        obtain ⟨w0,w1,w2,w3,w4,w5,l2⟩:=entCells Ka.out.h2
        have w6:=cell_of_row _ _ 6 _ _ _ Ka.out.h2
        go_wp2
        (try simp only [Exit.inBlock,Exit.then])
        refine bodyPost_ret (results_ent rfl _ _ p2 _ rfl rfl HO.out.1) rfl ?_
        exact ⟨none,0,0,0,none,0,0,0,0,0,by rw [HF.out];rfl,HO.out.2⟩
      ·have h3i:(e3 != 0)=true:=by simpa using h3
       have HK:=hid (show isKeyB b=false from by
        refine isKeyB_none ?_
        rw [HP.out]
        unfold parseT
        rw [←Kb.out]
        simp only
        rw [if_pos h3])
       go_upto_region 17 with fail
       clear h3 a0 a1 a2 a3 a4 a5 a6 l5 y0 y1 y2 y3 y4 y5 y6 Ka
       rename Hid (PK w _ p2 p4 p5 (.slice xr row.length yr) row ((fc.toNat:Nat):Int) (.slice xq qual.length yq) qual (tn:Int) 0 0)=>Ka
       have HF:=hid (show R=27 from by rw [Kc.out,HK.out];rfl)
       have HO:=hid Ka.out.outz
       obtain ⟨b0,b1,b2,b3,b4,b5,l4⟩:=entCells Ka.out.h4
       have b6:=cell_of_row _ _ 6 _ _ _ Ka.out.h4
       obtain ⟨z0,z1,z2,z3,z4,z5,z6⟩:=entFroz Ka.out.h2
       obtain ⟨w0,w1,w2,w3,w4,w5,l2⟩:=entCells Ka.out.h2
       have w6:=cell_of_row _ _ 6 _ _ _ Ka.out.h2
       go_wp2
       (try simp only [Exit.inBlock,Exit.then])
       refine bodyPost_ret (results_ent rfl _ _ p2 _ rfl rfl HO.out.1) rfl ?_
       exact ⟨none,0,0,0,none,0,0,0,0,0,by rw [HF.out];rfl,HO.out.2⟩
    ·have hei:(eq != 0)=true:=by simpa using heq
     have HK:=hid (show isKeyB b=false from by
      refine isKeyB_none ?_
      rw [Km.out,if_pos (.inl heq)])
     clear heq haqw
     have HF:=hid (show R=27 from by rw [Kc.out,HK.out];rfl)
     have HO:=hid Ka.out.outz
     obtain ⟨b0,b1,b2,b3,b4,b5,l4⟩:=entCells Ka.out.h4
     have b6:=cell_of_row _ _ 6 _ _ _ Ka.out.h4
     obtain ⟨z0,z1,z2,z3,z4,z5,z6⟩:=entFroz Ka.out.h2
     obtain ⟨w0,w1,w2,w3,w4,w5,l2⟩:=entCells Ka.out.h2
     have w6:=cell_of_row _ _ 6 _ _ _ Ka.out.h2
     go_wp2
     (try simp only [Exit.inBlock,Exit.then])
     refine bodyPost_ret (results_ent rfl _ _ p2 _ rfl rfl HO.out.1) rfl ?_
     exact ⟨none,0,0,0,none,0,0,0,0,0,by rw [HF.out];rfl,HO.out.2⟩
 ·have h1i:(er != 0)=true:=by simpa using h1e
  have HK:=hid (show isKeyB b=false from by
   refine isKeyB_none ?_
   unfold parseP
   rw [←Ko.out]
   simp only
   rw [if_pos (.inl h1e)])
  clear h1e
  have HF:=hid (show R=27 from by rw [Kc.out,HK.out];rfl)
  have HO:=hid Ka.out.outz
  obtain ⟨b0,b1,b2,b3,b4,b5,l4⟩:=entCells Ka.out.h4
  have b6:=cell_of_row _ _ 6 _ _ _ Ka.out.h4
  obtain ⟨z0,z1,z2,z3,z4,z5,z6⟩:=entFroz Ka.out.h2
  obtain ⟨w0,w1,w2,w3,w4,w5,l2⟩:=entCells Ka.out.h2
  have w6:=cell_of_row _ _ 6 _ _ _ Ka.out.h2
  go_wp2
  (try simp only [Exit.inBlock,Exit.then])
  refine bodyPost_ret (results_ent rfl _ _ p2 _ rfl rfl HO.out.1) rfl ?_
  exact ⟨none,0,0,0,none,0,0,0,0,0,by rw [HF.out];rfl,HO.out.2⟩
end Go.Proofs.YtgaidmohdhaonaaGreatDoor
