/-
  Package manifest, walked: Load.
  Package manifest, walked: Swap.
  Package manifest, walked: Swap.
-/
import Derived.Test.YtgaidmohdhaonaaGreatDoorYJ
import Derived.Test.YtgaidmohdhaonaaGreatDoorYI
set_option linter.unusedVariables false
set_option linter.unusedSimpArgs false
set_option linter.unnecessarySimpa false
set_option linter.unusedSectionVars false
set_option maxRecDepth 100000
set_option maxHeartbeats 6400000
namespace Go.Proofs.YtgaidmohdhaonaaGreatDoor
open Go Go.RowKit
def LoadRes (w':World) (base:Nat) (e:Ending):Option VerA×Int→Prop
 | (none,k)=>e=.returned (.tuple #[.agg (verC 0 0 0 0 0 (.slice none 0 0) (.slice none 0 0)),.bool false,.int .i64 k])
 | (some x,_)=>∃v,e=.returned (.tuple #[v,.bool true,.int .i64 0])∧VerOwn w' base v x
theorem Step.zero {w w':World} {s s2:DS} (h:Step w w' s s2) (h0:0∉s.blocks) (hw:0<w.heap.size):0∉s2.blocks:=fun e=>(h.foot 0 e).elim h0 (fun hk=>by omega)
theorem Step.then_upd {S:Nat→Prop} {w w1 w2:World} {s s1:DS} (h:Step w w1 s s1) (hu:Upd S w1 w2) (hS:∀k,S k→w.heap.size≤k∧k∉s1.blocks):Step w w2 s s1:=
 ⟨h.ins.upd hu (fun k hk hs=>(hS k hs).2 hk),h.p,h.upd.trans hu (fun k hk hs=>by have:=(hS k hs).1;omega),h.foot⟩
theorem VerOwn.lower {W:World} {base b2:Nat} {v:Value} {x:VerA} (h:VerOwn W base v x) (hb:b2≤base):VerOwn W b2 v x:=by
 obtain ⟨st,rs,L,e,h1,h2,h3,h4,h5⟩:=h.ex
 exact ⟨st,rs,L,e,h1,⟨owns_lower h2.row hb,h2.data⟩,h3,h4,fun k hk=>Nat.le_trans hb (h5 k hk)⟩
theorem read_p {w:World} {s:DS} (hs:s.In w) (n:ByteArray) (hok:lookP s.abs n true=0) :
  Calls Tryz.prog 77 #[.pointer (some ⟨s.p,0,none⟩),.string n,.int .i64 0,.int .i64 (sizeP s.abs n)] w fun e w'=>
   ∃v,e=.returned (.tuple #[v,.int .i64 0])∧DataIs w' v (((findP s.abs.files n).map (·.data)).getD [])∧(∀b,v.ownBlock=some b→w.heap.size≤b)∧Step w w' s s.bumpRead∧(((findP s.abs.files n).map (·.data)).getD []).length≤67108864:=by
 have hok':=hok
 rw [←lookP_abs] at hok'
 have hth:=(lookRes_zero.1 hok').2.2 rfl
 cases hf:s.fileAt n with
 | none=>rw [hf] at hth;simp at hth
 | some r=>
  have h:=read_yes hs n 0 r.data.length hf hok' (by omega)
  have e1:sizeP s.abs n=(r.data.length:Int):=by
   unfold sizeP
   rw [if_pos hok,←fileAt_findP,hf];rfl
  have e2:((findP s.abs.files n).map (·.data)).getD []=r.data:=by rw [←fileAt_findP,hf];rfl
  rw [e1,e2]
  rw [List.drop_zero,List.take_length] at h
  refine h.mono ?_
  rintro e w' ⟨v,rfl,h1,h2,h3⟩
  exact ⟨v,rfl,h1,h2,h3,hs.data_le (fileAt_mem hf).1⟩
theorem load_own {w:World} {s:DS} (hT:TabIn w) (hs:s.In w) (h0:0∉s.blocks) (pre:ByteArray) (hp:pre.size≤140737488355328) :
  Calls Tryz.prog 20 #[.pointer (some ⟨s.p,0,none⟩),.string pre] w fun e w'=>LoadRes w' w.heap.size e (loadP s.abs pre).1∧∃s2,Step w w' s s2∧s2.abs=(loadP s.abs pre).2∧s2.blocks=s.blocks:=by
 have Kf:=hid hs;have Kq:=hid h0
 have hlt:=hs.lt
 have Ku:=hid hlt
 have hu1:=(Upd.refl (fun _=>False) w).alloc (.cells (verC 0 0 0 0 0 (.slice none 0 0) (.slice none 0 0)) 25)
 have Kd:=hid hu1
 have HB:=hid (heap_alloc_new w (.cells (verC 0 0 0 0 0 (.slice none 0 0) (.slice none 0 0)) 25))
 have HT:=hid (hT.keep hu1)
 have HS:=hid (hs.upd hu1 (fun _ _ e=>e))
 obtain ⟨O,hO⟩:∃O,O=loadP s.abs pre:=⟨_,rfl⟩
 rw [←hO]
 unfold loadP at hO
 have Kg:=hid hO
 have hplt:=hs.plt
 have hp1:¬(9223372036854775807<pre.size+8):=by omega
 obtain ⟨p4,hp4⟩:∃p4,p4=w.heap.size:=⟨_,rfl⟩
 rw [←hp4] at HB
 have Ke:=hid hp4
 have Kh:=hid (show p4∉s.blocks from fun e=>by have:=hlt _ e;omega)
 clear hO hs h0 hlt hu1 hT hp4
 go_enter Tryz.func20,Tryz.ntmps20
 go_upto_region 1 with fail
 rw [←Ke.out]
 generalize w.alloc (.cells #[.int .i64 0,.int .i64 0,.int .i64 0,.int .i64 0,.int .i64 0,.slice none 0 0,.slice none 0 0] 25)=W1 at Kd HB HT HS⊢
 have HA:=hid (asked_any HS.out pre hp)
 obtain ⟨e0,he0⟩:∃e0,e0=askedP s.abs pre:=⟨_,rfl⟩
 rw [←he0] at HA Kg
 clear he0
 go_wp2_with fail
 refine HA.out.mono ?_
 rintro e W ⟨rfl,hww⟩
 obtain rfl:=hww.symm
 by_cases hz:e0=0
 ·subst hz
  have hO:=Kg.out
  rw [if_neg (by decide)] at hO
  have Ki:=hid hO
  clear hO
  have HZ:=hid (size_p HS.out (pre++nameB))
  have Kl:=hid (read_p HS.out (pre++nameB))
  obtain ⟨e1,he1⟩:∃e1,e1=lookP s.abs (pre++nameB) true:=⟨_,rfl⟩
  obtain ⟨n1,hn1⟩:∃n1,n1=sizeP s.abs (pre++nameB):=⟨_,rfl⟩
  obtain ⟨dt,hdt⟩:∃dt,dt=((findP s.abs.files (pre++nameB)).map (·.data)).getD []:=⟨_,rfl⟩
  rw [←he1,←hn1] at HZ
  rw [←he1,←hn1,←hdt] at Kl
  rw [←he1,←hdt] at Ki
  clear he1 hn1 hdt
  go_wp2_with fail
  refine HZ.out.mono ?_
  rintro e W ⟨rfl,hww⟩
  obtain rfl:=hww.symm
  by_cases hz1:e1=0
  ·subst hz1
   have hO:=Ki.out
   rw [if_neg (by decide)] at hO
   have Km:=hid hO
   clear hO
   go_wp2_with fail
   refine (Kl.out (by first|trivial|rfl)).mono ?_
   rintro e W2 ⟨v,rfl,hdv,hnv,hst,hdl⟩
   have Kn:=hid hst;have Kv:=hid hdv
   have hT2:=hid (HT.out.upd hst.upd Kq.out)
   have Kj:=hid (hst.upd.get HB.out Kh.out)
   have Kr:=hid (show w.heap.size≤W2.heap.size from Nat.le_trans Kd.out.size hst.upd.size)
   have Ks:=hid (decode_any hT2.out hdv.bat (by omega))
   clear hst hdv hnv hdl
   go_wp2_with fail
   refine Ks.out.mono ?_
   rintro e W3 ⟨hres,hu3⟩
   cases hdc:decodeA dt with
   | none=>
    rw [hdc] at hres
    obtain rfl:=hres
    have Kk:=hid (show O=((none,100),readP s.abs) from by rw [Km.out,hdc])
    clear hdc
    go_upto_region 11 with fail
    have hua:=(Upd.refl (fun _=>False) W3).alloc (.cells (verC 0 0 0 0 0 (.slice none 0 0) (.slice none 0 0)) 25)
    have Ka:=hid (hu3.trans hua (fun _ _ e=>e))
    have Kb:=hid (Ka.out.get Kj.out (fun e=>e))
    have Kc:=hid (heap_alloc_new W3 (.cells (verC 0 0 0 0 0 (.slice none 0 0) (.slice none 0 0)) 25))
    obtain ⟨p11,hp11⟩:∃p,p=W3.heap.size:=⟨_,rfl⟩
    rw [←hp11] at Kc
    rw [←hp11]
    generalize W3.alloc (.cells #[.int .i64 0,.int .i64 0,.int .i64 0,.int .i64 0,.int .i64 0,.slice none 0 0,.slice none 0 0] 25)=W4 at Ka Kb Kc⊢
    obtain ⟨⟨q0,q1,q2,q3,q4,q5,q6⟩,⟨z0,z1,z2,z3,z4,z5,z6⟩,hql⟩:=verCells Kb.out
    obtain ⟨⟨v0,v1,v2,v3,v4,v5,v6⟩,-,hvl⟩:=verCells Kc.out
    clear hua hu3 hp11
    go_wp2
    (try simp only [Exit.inBlock,Exit.then])
    have HO:=hid (verOut_at Kb.out 0 0 0 0 0 (.slice none 0 0) (.slice none 0 0))
    refine bodyPost_ret (results_ver3 rfl _ _ p4 _ rfl rfl HO.out) rfl ?_
    rw [Kk.out]
    exact ⟨rfl,_,((Step.of_upd Kf.out Kd.out).trans Kn.out).then_upd (verOut_upd (S:=fun k=>k=p4) (Ka.out.mono (fun _ _ e=>e.elim)) (p:=p4) (fun _=>rfl) 0 0 0 0 0 (.slice none 0 0) (.slice none 0 0)) (fun k e=>by rw [e];exact ⟨by have:=Ke.out;omega,Kh.out⟩),bumpRead_p s,rfl⟩
   | some x=>
    rw [hdc] at hres
    obtain ⟨v',rfl,hown⟩:=hres
    have Kk:=hid (show O=((some x,0),readP s.abs) from by rw [Km.out,hdc])
    have Ko:=hid hown
    obtain ⟨st,rs,L,e,h1,h2,-,-,-⟩:=hown.ex
    obtain ⟨a1,c1,e1,-⟩:=h1.bat
    obtain ⟨a2,c2,e2⟩:=h2.slice
    obtain ⟨m1,hm1⟩:∃m,m=x.state.length:=⟨_,rfl⟩
    obtain ⟨m2,hm2⟩:∃m,m=L.length:=⟨_,rfl⟩
    obtain ⟨y1,hy1⟩:∃y,y=x.gen:=⟨_,rfl⟩
    obtain ⟨y2,hy2⟩:∃y,y=x.flushed:=⟨_,rfl⟩
    obtain ⟨y3,hy3⟩:∃y,y=x.next:=⟨_,rfl⟩
    obtain ⟨y4,hy4⟩:∃y,y=x.low:=⟨_,rfl⟩
    obtain ⟨y5,hy5⟩:∃y,y=x.clock:=⟨_,rfl⟩
    rw [e1,e2,←hm1,←hm2,←hy1,←hy2,←hy3,←hy4,←hy5] at e
    subst e
    clear hdc hown h1 h2 e1 e2 hm1 hm2 hy1 hy2 hy3 hy4 hy5
    go_upto_region 11 with fail
    have hua:=(Upd.refl (fun _=>False) W3).alloc (.cells (verC y1 y2 y3 y4 y5 (.slice a1 m1 c1) (.slice a2 m2 c2)) 25)
    have Kp:=hid hua
    have Ka:=hid (hu3.trans hua (fun _ _ e=>e))
    have Kb:=hid (Ka.out.get Kj.out (fun e=>e))
    have Kc:=hid (heap_alloc_new W3 (.cells (verC y1 y2 y3 y4 y5 (.slice a1 m1 c1) (.slice a2 m2 c2)) 25))
    obtain ⟨p11,hp11⟩:∃p,p=W3.heap.size:=⟨_,rfl⟩
    rw [←hp11] at Kc
    rw [←hp11]
    generalize W3.alloc (.cells #[.int .i64 y1,.int .i64 y2,.int .i64 y3,.int .i64 y4,.int .i64 y5,.slice a1 m1 c1,.slice a2 m2 c2] 25)=W4 at Kp Ka Kb Kc⊢
    obtain ⟨⟨q0,q1,q2,q3,q4,q5,q6⟩,⟨z0,z1,z2,z3,z4,z5,z6⟩,hql⟩:=verCells Kb.out
    obtain ⟨⟨v0,v1,v2,v3,v4,v5,v6⟩,-,hvl⟩:=verCells Kc.out
    have Kt:=hid (show p4<W2.heap.size from lt_of_heap Kj.out)
    clear hua hu3 hp11
    go_wp2
    (try simp only [Exit.inBlock,Exit.then])
    have HO:=hid (verOut_at Kb.out y1 y2 y3 y4 y5 (.slice a1 m1 c1) (.slice a2 m2 c2))
    refine bodyPost_ret (results_ver3 rfl _ _ p4 _ rfl rfl HO.out) rfl ?_
    rw [Kk.out]
    refine ⟨⟨_,rfl,(Ko.out.keep (verOut_upd (S:=fun k=>k=p4) (Kp.out.mono (fun _ _ e=>e.elim)) (p:=p4) (fun _=>rfl) y1 y2 y3 y4 y5 (.slice a1 m1 c1) (.slice a2 m2 c2)) (fun k e=>by rw [e];exact Kt.out)).lower Kr.out⟩,_,((Step.of_upd Kf.out Kd.out).trans Kn.out).then_upd (verOut_upd (S:=fun k=>k=p4) (Ka.out.mono (fun _ _ e=>e.elim)) (p:=p4) (fun _=>rfl) y1 y2 y3 y4 y5 (.slice a1 m1 c1) (.slice a2 m2 c2)) (fun k e=>by rw [e];exact ⟨by have:=Ke.out;omega,Kh.out⟩),bumpRead_p s,rfl⟩
  ·have HD:=hid (show O=((none,0),s.abs) from by rw [Ki.out,if_pos hz1])
   have hnb:(e1 != 0)=true:=by simpa using hz1
   clear hz1
   obtain ⟨⟨q0,q1,q2,q3,q4,q5,q6⟩,⟨z0,z1,z2,z3,z4,z5,z6⟩,hql⟩:=verCells HB.out
   have HO:=hid (And.intro (verOut_at HB.out 0 0 0 0 0 (.slice none 0 0) (.slice none 0 0)) (verOut_upd Kd.out (p:=p4) (fun e=>by have:=Ke.out;omega) 0 0 0 0 0 (.slice none 0 0) (.slice none 0 0)))
   go_wp2
   (try simp only [Exit.inBlock,Exit.then])
   refine bodyPost_ret (results_ver3 rfl _ _ p4 _ rfl rfl HO.out.1) rfl ?_
   rw [HD.out]
   exact ⟨rfl,s,Step.of_upd Kf.out HO.out.2,rfl,rfl⟩
 ·have HD:=hid (show O=((none,e0),s.abs) from by rw [Kg.out,if_pos hz])
  have hnb:(e0 != 0)=true:=by simpa using hz
  clear hz
  obtain ⟨⟨q0,q1,q2,q3,q4,q5,q6⟩,⟨z0,z1,z2,z3,z4,z5,z6⟩,hql⟩:=verCells HB.out
  have HO:=hid (And.intro (verOut_at HB.out 0 0 0 0 0 (.slice none 0 0) (.slice none 0 0)) (verOut_upd Kd.out (p:=p4) (fun e=>by have:=Ke.out;omega) 0 0 0 0 0 (.slice none 0 0) (.slice none 0 0)))
  go_wp2
  (try simp only [Exit.inBlock,Exit.then])
  refine bodyPost_ret (results_ver3 rfl _ _ p4 _ rfl rfl HO.out.1) rfl ?_
  rw [HD.out]
  exact ⟨rfl,s,Step.of_upd Kf.out HO.out.2,rfl,rfl⟩
theorem load_any {w:World} {s:DS} (hT:TabIn w) (hs:s.In w) (h0:0∉s.blocks) (pre:ByteArray) (hp:pre.size≤140737488355328) :
  Calls Tryz.prog 20 #[.pointer (some ⟨s.p,0,none⟩),.string pre] w fun e w'=>LoadRes w' w.heap.size e (loadP s.abs pre).1∧∃s2,Step w w' s s2∧s2.abs=(loadP s.abs pre).2:=
 (load_own hT hs h0 pre hp).mono fun _ _ h=>⟨h.1,let ⟨s2,h1,h2,_⟩:=h.2;⟨s2,h1,h2⟩⟩
theorem decodeA_ok {b:List UInt8} {x:VerA} (h:decodeA b=some x):okA x=true:=by
 unfold decodeA at h
 split at h
 ·cases h
 split at h
 ·cases h
 split at h
 ·cases h
 split at h
 ·rename_i hh
  injection h with h
  rw [←h];exact hh.1
 ·cases h
theorem okA_gen {x:VerA} (h:okA x=true):1≤x.gen∧x.gen≤1099511627776:=by
 have h1:=okA_head h
 simp only [headA,Bool.and_eq_true,ins,decide_eq_true_eq] at h1
 exact h1.1.1.1.1.1.1
theorem loadP_some {a:DiskA} {pre:ByteArray} {x:VerA} {k:Int} (h:(loadP a pre).1=(some x,k)):k=0∧okA x=true:=by
 unfold loadP at h
 split at h
 ·simp at h
 split at h
 ·simp at h
 cases hd:decodeA (((findP a.files (pre++nameB)).map (·.data)).getD []) with
 | none=>rw [hd] at h;simp at h
 | some y=>
  rw [hd] at h
  simp only [Prod.mk.injEq,Option.some.injEq] at h
  obtain ⟨rfl,rfl⟩:=h
  exact ⟨rfl,decodeA_ok hd⟩
theorem LoadRes.shape {w':World} {base:Nat} {e:Ending} {a:DiskA} {pre:ByteArray} (h:LoadRes w' base e (loadP a pre).1) :
  ∃g0 y2 y3 y4 y5 a1 m1 c1 a2 m2 c2 isb,e=.returned (.tuple #[.agg #[.int .i64 g0,.int .i64 y2,.int .i64 y3,.int .i64 y4,.int .i64 y5,.slice a1 m1 c1,.slice a2 m2 c2],.bool isb,.int .i64 (loadP a pre).1.2])∧
   g0=((loadP a pre).1.1.map (·.gen)).getD 0∧0≤g0∧g0≤1099511627776:=by
 rcases hl:(loadP a pre).1 with ⟨o,k⟩
 rw [hl] at h
 cases o with
 | none=>exact ⟨0,0,0,0,0,none,0,0,none,0,0,false,h,rfl,by omega,by omega⟩
 | some x=>
  obtain ⟨rfl,hok⟩:=loadP_some hl
  obtain ⟨v,rfl,hown⟩:=h
  obtain ⟨s1,d1,s2,d2,rfl,-,-⟩:=hown.at
  have:=okA_gen hok
  exact ⟨x.gen,x.flushed,x.next,x.low,x.clock,s1,x.state.length,d1,s2,x.runs.length,d2,true,rfl,rfl,by omega,this.2⟩
theorem Beside.push {W:World} {s:DS} {p:Nat} {R:List (Nat×Obj)} (h:Beside W s p R) (o:Obj):Beside (W.alloc o) s p ((W.heap.size,o) :: R):=by
 have h1:=h.upd ((Upd.refl (fun _=>False) W).alloc o)
 refine ⟨h1.ins,h1.pp,fun r hr=>?_,fun r hr=>?_⟩
 ·rcases List.mem_cons.1 hr with rfl|hr
  ·exact heap_alloc_new W o
  ·exact h1.rows r hr
 ·rcases List.mem_cons.1 hr with rfl|hr
  ·intro e;have:=h.ins.lt _ e;exact absurd this (Nat.lt_irrefl _)
  ·exact h1.out r hr
theorem Step.alloc {w W:World} {s s2:DS} (h:Step w W s s2) (o:Obj):Step w (W.alloc o) s s2:=
 h.then_upd ((Upd.refl (fun _=>False) W).alloc o) (fun _ e=>e.elim)
theorem swap_out {w W:World} {s s2:DS} {be:Nat} {k0:Int} (hst:Step w W s s2) (hb:W.heap[be]? = some (.cells #[.int .i64 k0] 29 (0,0))) (hw:w.heap.size≤be) (ho:be∉s2.blocks) (k:Int) :
  (W.setCell ⟨be,0,none⟩ (.int .i64 k)).cell? ⟨be,0,none⟩=some (.int .i64 k)∧Step w (W.setCell ⟨be,0,none⟩ (.int .i64 k)) s s2∧(W.setCell ⟨be,0,none⟩ (.int .i64 k)).heap[be]? = some (.cells #[.int .i64 k] 29 (0,0)):=by
 have h1:=heap_setCell_at W be 0 _ _ (.int .i64 k) hb
 have h2:(W.setCell ⟨be,0,none⟩ (.int .i64 k)).heap[be]? = some (.cells #[.int .i64 k] 29 (0,0)):=h1
 refine ⟨by rw [cell_of_row _ be 0 _ _ _ h2];rfl,hst.then_upd (Upd.cell_only W be 0 (.int .i64 k)) (fun b e=>by subst e;exact ⟨hw,ho⟩),h2⟩
theorem Beside.err {W:World} {s:DS} {p be:Nat} {R R':List (Nat×Obj)} (h:Beside W s p R) (hR:∀r∈R',r∈R∧r.1≠be) (ho:be∉s.blocks) (k:Int) :
  Beside (W.setCell ⟨be,0,none⟩ (.int .i64 k)) s p R':=by
 have hu:Upd (fun b=>b=be) W (W.setCell ⟨be,0,none⟩ (.int .i64 k)):=Upd.cell_only _ _ _ _
 exact ⟨h.ins.upd hu (fun b hb e=>by subst e;exact ho hb),h.pp,fun r hr=>hu.get (h.rows r (hR r hr).1) (hR r hr).2,fun r hr=>h.out r (hR r hr).1⟩
theorem rows4 (w:World) (o1 o2 o3 o4:Obj):((((w.alloc o1).alloc o2).alloc o3).alloc o4).heap[w.heap.size]? = some o1∧((((w.alloc o1).alloc o2).alloc o3).alloc o4).heap[w.heap.size+1]? = some o2∧
  ((((w.alloc o1).alloc o2).alloc o3).alloc o4).heap[w.heap.size+1+1]? = some o3∧((((w.alloc o1).alloc o2).alloc o3).alloc o4).heap[w.heap.size+1+1+1]? = some o4:=by
 have e1:(w.alloc o1).heap.size=w.heap.size+1:=World.size_alloc _ _
 have e2:((w.alloc o1).alloc o2).heap.size=w.heap.size+1+1:=by rw [World.size_alloc,e1]
 have e3:(((w.alloc o1).alloc o2).alloc o3).heap.size=w.heap.size+1+1+1:=by rw [World.size_alloc,e2]
 refine ⟨?_,?_,?_,?_⟩
 ·rw [heap_alloc_past _ _ _ (by omega),heap_alloc_past _ _ _ (by omega),heap_alloc_past _ _ _ (by omega)];exact heap_alloc_new w o1
 ·rw [heap_alloc_past _ _ _ (by omega),heap_alloc_past _ _ _ (by omega),←e1];exact heap_alloc_new _ o2
 ·rw [heap_alloc_past _ _ _ (by omega),←e2];exact heap_alloc_new _ o3
 ·rw [←e3];exact heap_alloc_new _ o4
def fnV (f:Nat×Array Value×(DiskA→Int×DiskA)):Value:=.func (.func f.1) #[] f.2.1
structure StepsAt (W:World) (s:DS) (p:Nat) (R:List (Nat×Obj)) (bs:Nat) (fs:List (Nat×Array Value×(DiskA→Int×DiskA))):Prop where
 row:∃cur,(bs,Obj.cells cur 124 (0,0))∈R∧cur.toList.take fs.length=fs.map fnV
 does:∀f∈fs,(∀W,(callFunc f.1 f.2.1).run Tryz.prog W=.ok (.enter f.1 f.2.1) W)∧DoesP p R f.1 f.2.1 f.2.2
theorem StepsAt.cell {W W0:World} {s s0:DS} {p:Nat} {R:List (Nat×Obj)} {bs:Nat} {fs:List (Nat×Array Value×(DiskA→Int×DiskA))} (h:StepsAt W0 s0 p R bs fs) (hB:Beside W s p R) {k:Nat} (hk:k<fs.length):W.cell? ⟨bs,k,none⟩=some (.func (.func fs[k].1) #[] fs[k].2.1):=by
 obtain ⟨cur,h1,h2⟩:=h.row
 rw [cell_of_row W bs k _ _ _ (hB.rows _ h1),←Array.getElem?_toList]
 have h3:(cur.toList.take fs.length)[k]? = (fs.map fnV)[k]?:=by rw [h2]
 rw [List.getElem?_take,if_pos hk] at h3
 rw [h3,List.getElem?_map,List.getElem?_eq_getElem hk]
 rfl
theorem runP_at {fs:List (Nat×Array Value×(DiskA→Int×DiskA))} {k:Nat} (hk:k<fs.length) (a:DiskA) :
  runP ((fs.drop k).map (·.2.2)) a=if (fs[k].2.2 a).1≠0 then fs[k].2.2 a else runP ((fs.drop (k+1)).map (·.2.2)) (fs[k].2.2 a).2:=by
 rw [List.drop_eq_getElem_cons hk]
 rfl
theorem strokeP_of {a d:DiskA} {pre:ByteArray} {b:List UInt8} {e:Int} (h:runP (stepsP a pre b) a=(e,d)):strokeP a pre b=(e,if e=4 then (deleteP d (pre++tempB)).2 else d):=by
 unfold strokeP
 rw [h]
 by_cases h4:e=4
 ·simp [h4]
 ·simp [h4]
abbrev stepsV (bd b12 b8 bp:Nat) (pre:ByteArray) (bytes:List UInt8):List (Nat×Array Value×(DiskA→Int×DiskA)):=
  [(59,#[.pointer (some ⟨bd,0,none⟩),.pointer (some ⟨b12,0,none⟩)],fun a=>createP a (pre++tempB)),
   (60, #[.pointer (some ⟨bd, 0, none⟩), .pointer (some ⟨b12, 0, none⟩), .pointer (some ⟨b8, 0, none⟩)], fun a => appendP a (pre ++ tempB) bytes),
   (61, #[.pointer (some ⟨bd, 0, none⟩), .pointer (some ⟨b12, 0, none⟩)], fun a => syncP a (pre ++ tempB)),
   (63, #[.pointer (some ⟨bd, 0, none⟩), .pointer (some ⟨b12, 0, none⟩), .pointer (some ⟨bp, 0, none⟩)], fun a => renameP a (pre ++ tempB) (pre ++ nameB))]
abbrev stepsV6 (bd b12 b8 bp:Nat) (pre:ByteArray) (bytes:List UInt8):List (Nat×Array Value×(DiskA→Int×DiskA)):=
 (66,#[.pointer (some ⟨bd,0,none⟩),.pointer (some ⟨b12,0,none⟩)],fun a=>deleteP a (pre++tempB)) :: stepsV bd b12 b8 bp pre bytes
theorem stepsV_does {p bd b12 b8 bp gb cb:Nat} {pre:ByteArray} {bytes:List UInt8} {cur:Array Value} {R:List (Nat×Obj)} {nb:Nat} (hnb:nb=bytes.length)
  (hd:(bd,Obj.cells #[.pointer (some ⟨p,0,none⟩)] 28 (0,0))∈R) (hf:(b12,Obj.cells #[.string (pre++tempB)] 9 (0,0))∈R) (hb:(b8,Obj.cells #[.slice (some ⟨gb,0,none⟩) nb cb] 22 (0,0))∈R) (hp:(bp,Obj.cells #[.string pre] 9 (0,0))∈R)
  (hg:(gb,Obj.cells cur 5 (0,0))∈R) (hdat:bytes.length≤cb∧cb≤cur.size∧cb≤maxLen∧cur.toList.take bytes.length=bytes.map byteV) (hl:pre.size≤140737488355328) :
  ∀f∈stepsV6 bd b12 b8 bp pre bytes,(∀W,(callFunc f.1 f.2.1).run Tryz.prog W=.ok (.enter f.1 f.2.1) W)∧DoesP p R f.1 f.2.1 f.2.2:=by
 intro f hfm
 subst hnb
 simp only [List.mem_cons,List.not_mem_nil,or_false] at hfm
 rcases hfm with rfl|rfl|rfl|rfl|rfl
 ·exact ⟨fun W=>run_enters (P:=Tryz.prog) Tryz.func66 (by kernel_rfl) (by kernel_rfl) _ W,swap6_does hd hf⟩
 ·exact ⟨fun W=>run_enters (P:=Tryz.prog) Tryz.func59 (by kernel_rfl) (by kernel_rfl) _ W,swap2_does hd hf⟩
 ·refine ⟨fun W=>run_enters (P:=Tryz.prog) Tryz.func60 (by kernel_rfl) (by kernel_rfl) _ W,swap3_does hd hf hb (fun W s hB=>⟨.inr ⟨gb,cb,cur,rfl,hB.rows _ hg,hdat⟩,fun k hk e=>?_⟩)⟩
  simp only [Value.ownBlock,Option.some.injEq] at hk
  subst hk
  exact hB.out _ hg (by show gb∈s.blocks;rw [e];simp [DS.blocks])
 ·exact ⟨fun W=>run_enters (P:=Tryz.prog) Tryz.func61 (by kernel_rfl) (by kernel_rfl) _ W,swap4_does hd hf⟩
 ·exact ⟨fun W=>run_enters (P:=Tryz.prog) Tryz.func63 (by kernel_rfl) (by kernel_rfl) _ W,swap5_does hd hf hp hl⟩
theorem Tryz.infoFn:(Tryz.prog.info? 124).map (fun i=>(i.zero,i.size,i.bytes))=some (some .nilFunc,1,8):=by kernel_rfl
theorem ahead_run {W:World} {t:DS} {p b13:Nat} {R:List (Nat×Obj)} {f6:Value} {fs:List Value} (hB:Beside W t p R) (hb:(b13,Obj.cells fs.toArray 124 (0,0))∈R) (h6:f6.oneCell'=true) (hfs:∀u∈fs,u.oneCell'=true) (hl:fs.length≤4) :
  ∃g cap cur w2,(Builtin.append_ #[126,126] 126 #[.slice (some ⟨W.heap.size,0,none⟩) 1 1,.slice (some ⟨b13,0,none⟩) fs.length fs.length]).run Tryz.prog (W.alloc (.cells #[f6] 124))=.ok (.slice (some ⟨g,0,none⟩) (1+fs.length) cap) w2∧
   cur.toList.take (1+fs.length)=f6 :: fs∧Beside w2 t p ((g,Obj.cells cur 124 (0,0)) :: R)∧Upd (fun k=>k=W.heap.size) W w2:=by
 obtain ⟨i0,hi,hz0,hz1,hz2⟩:=info_parts Tryz.infoFn
 have hown:(W.alloc (.cells #[f6] 124)).ownsRow W.heap.size 124 1 (.slice (some ⟨W.heap.size,0,none⟩) 1 1) 1 [f6]:=
  ⟨rfl,.inr ⟨_,1,#[f6],rfl,Nat.le_refl _,heap_alloc_new W _,by omega,by unfold maxLen;omega,rfl,rfl⟩⟩
 have hB1:=hB.upd ((Upd.refl (fun _=>False) W).alloc (.cells #[f6] 124))
 obtain ⟨v',w2,hr,hown2,hg,-⟩:=run_append_own (P:=Tryz.prog) (W.alloc (.cells #[f6] 124)) W.heap.size 126 126 124 i0 .nilFunc 1 8 Tryz.underlying126 hi hz0 hz1 hz2 rfl (by decide) _ 1 [f6] hown ⟨b13,0,none⟩ fs.length fs.length fs (by simp)
  (by have h:=World.news_of_block (cs:=fs.toArray) (hB1.rows _ hb);simpa using h) hfs (by unfold maxLen;omega) (by omega) (by simp)
 obtain ⟨-,h2⟩:=hown2
 rcases h2 with ⟨-,h2⟩|⟨g,cap,cur,rfl,hbg,hgr,hn1,hn2,hn3,hn4⟩
 ·omega
 have hu:Upd (fun k=>k=W.heap.size) W w2:=((Upd.refl (fun k=>k=W.heap.size) W).alloc _).grown hg (fun k hk _=>by simp only [Value.ownBlock,Option.some.injEq] at hk;exact hk.symm)
 have hlt:=hB.ins.lt
 refine ⟨g,cap,cur,w2,hr,by rw [Nat.mul_one] at hn4;exact hn4,⟨hB.ins.upd hu (fun k hk e=>by have:=hlt k hk;omega),hB.pp,fun r hr=>?_,fun r hr=>?_⟩,hu⟩
 ·rcases List.mem_cons.1 hr with rfl|hr
  ·exact hgr
  ·exact hu.get (hB.rows r hr) (fun e=>by have:=lt_of_heap (hB.rows r hr);omega)
 ·rcases List.mem_cons.1 hr with rfl|hr
  ·intro e;have:=hlt _ e;simp only at this;omega
  ·exact hB.out r hr
theorem swap_any {w:World} {s:DS} {v:Value} {x:VerA} (hT:TabIn w) (hs:s.In w) (h0:0∉s.blocks) (pre:ByteArray) (hp:pre.size≤140737488355328) (hv:VerAt w v x) (hl:∀r∈x.runs,r.first.length≤140737488351232∧r.last.length≤140737488351232) :
  Calls Tryz.prog 14 #[.pointer (some ⟨s.p,0,none⟩),.string pre,v] w fun e w'=>e=.returned (.int .i64 (swapP s.abs pre x).1)∧∃s2,Step w w' s s2∧s2.abs=(swapP s.abs pre x).2:=by
 obtain ⟨O,hO⟩:∃O,O=swapP s.abs pre x:=⟨_,rfl⟩
 rw [←hO]
 unfold swapP at hO
 have Kz:=hid hO
 have Jl:=hid hs;have Zi:=hid hv;have HL:=hid hl;have Jm:=hid h0;have Zt:=hid hT
 have hlt:=hs.lt
 obtain ⟨s1,d1,s2,d2,rfl,-,-⟩:=hv
 obtain ⟨m1,hm1⟩:∃m,m=x.state.length:=⟨_,rfl⟩
 obtain ⟨m2,hm2⟩:∃m,m=x.runs.length:=⟨_,rfl⟩
 obtain ⟨xg,hxg⟩:∃g,g=x.gen:=⟨_,rfl⟩
 rw [←hm1,←hm2,←hxg] at Zi
 rw [←hm1,←hm2,←hxg]
 obtain ⟨p,hpp⟩:∃p,p=s.p:=⟨_,rfl⟩
 obtain ⟨W4,hW4⟩:∃W,W=(((w.alloc (.cells #[.pointer (some ⟨s.p,0,none⟩)] 28)).alloc (.cells #[.string pre] 9)).alloc (.cells #[.int .i64 xg,.int .i64 x.flushed,.int .i64 x.next,.int .i64 x.low,.int .i64 x.clock,.slice s1 m1 d1,.slice s2 m2 d2] 25)).alloc (.cells #[.int .i64 0] 29):=⟨_,rfl⟩
 have hu4:Upd (fun _=>False) w W4:=by rw [hW4];exact ((((Upd.refl _ w).alloc _).alloc _).alloc _).alloc _
 obtain ⟨r1,r2,r3,r4⟩:=rows4 w (.cells #[.pointer (some ⟨s.p,0,none⟩)] 28) (.cells #[.string pre] 9) (.cells #[.int .i64 xg,.int .i64 x.flushed,.int .i64 x.next,.int .i64 x.low,.int .i64 x.clock,.slice s1 m1 d1,.slice s2 m2 d2] 25) (.cells #[.int .i64 0] 29)
 rw [←hW4,←hpp] at r1
 rw [←hW4] at r2 r3 r4
 obtain ⟨bd,hbd⟩:∃b,b=w.heap.size:=⟨_,rfl⟩
 obtain ⟨bp,hbp⟩:∃b,b=w.heap.size+1:=⟨_,rfl⟩
 obtain ⟨bx,hbx⟩:∃b,b=w.heap.size+1+1:=⟨_,rfl⟩
 obtain ⟨be,hbe⟩:∃b,b=w.heap.size+1+1+1:=⟨_,rfl⟩
 rw [←hbd] at r1;rw [←hbp] at r2;rw [←hbx] at r3;rw [←hbe] at r4
 have Ka:=hid (show Beside W4 s p [(bd,Obj.cells #[.pointer (some ⟨p,0,none⟩)] 28 (0,0)),(bp,Obj.cells #[.string pre] 9 (0,0)),(bx,Obj.cells #[.int .i64 xg,.int .i64 x.flushed,.int .i64 x.next,.int .i64 x.low,.int .i64 x.clock,.slice s1 m1 d1,.slice s2 m2 d2] 25 (0,0)),(be,Obj.cells #[.int .i64 0] 29 (0,0))] from by
  refine ⟨hs.upd hu4 (fun _ _ e=>e),hpp.symm,fun r hr=>?_,fun r hr=>?_⟩
  ·simp only [List.mem_cons,List.not_mem_nil,or_false] at hr
   rcases hr with rfl|rfl|rfl|rfl
   ·exact r1
   ·exact r2
   ·exact r3
   ·exact r4
  ·simp only [List.mem_cons,List.not_mem_nil,or_false] at hr
   intro e
   have:=hlt _ e
   rcases hr with rfl|rfl|rfl|rfl<;>simp only at this<;>omega)
 have Kq:=hid hu4
 have Kp:=hid (show w.heap.size≤be from by omega)
 have Zu:=hid (show bd≠be∧bp≠be∧bx≠be from ⟨by omega,by omega,by omega⟩)
 have Zv:=hid hbd;have Zw:=hid hbp;have Zx:=hid hbx;have Zy:=hid hbe;have Jn:=hid hW4;have Zz:=hid hpp;have Zj:=hid hxg
 have hp12:¬(9223372036854775807<pre.size+12):=by omega
 clear hO hs hl h0 hT hlt hm1 hm2 hxg hpp hW4 hu4 r1 r2 r3 r4 hbd hbp hbx hbe
 rw [←Zz.out]
 go_enter_defers Tryz.func14,Tryz.ntmps14
 go_upto_region 1 with fail
 have hW:=Jn.out
 rw [←Zz.out] at hW
 rw [←hW,←Zy.out,←Zx.out,←Zw.out,←Zv.out]
 clear hW
 have Km:=hid (Step.of_upd Jl.out Kq.out)
 have HA:=hid (asked_any Ka.out.ins pre hp)
 rw [Ka.out.pp] at HA
 obtain ⟨e0,he0⟩:∃e,e=askedP s.abs pre:=⟨_,rfl⟩
 rw [←he0] at HA Kz
 clear he0
 have cd:=Ka.out.cell (b:=bd) (v:=.pointer (some ⟨p,0,none⟩)) (t:=28) (by simp)
 have cp:=Ka.out.cell (b:=bp) (v:=.string pre) (t:=9) (by simp)
 obtain ⟨⟨q0,q1,q2,q3,q4,q5,q6⟩,-,hql⟩:=verCells (Ka.out.rows (bx,Obj.cells #[.int .i64 xg,.int .i64 x.flushed,.int .i64 x.next,.int .i64 x.low,.int .i64 x.clock,.slice s1 m1 d1,.slice s2 m2 d2] 25 (0,0)) (by simp))
 go_wp2_with fail
 refine HA.out.mono ?_
 rintro e W ⟨rfl,hww⟩
 obtain rfl:=hww.symm
 by_cases hz:e0=0
 case neg=>
  have HD:=hid (show O=(e0,s.abs) from by rw [Kz.out,if_pos hz])
  have hnb:(e0 != 0)=true:=by simpa using hz
  clear hz
  have HX:=hid (swap_out Km.out (Ka.out.rows (be,Obj.cells #[.int .i64 0] 29 (0,0)) (by simp)) Kp.out (Ka.out.out (be,Obj.cells #[.int .i64 0] 29 (0,0)) (by simp)) e0)
  have ce:=Ka.out.cell (b:=be) (v:=.int .i64 0) (t:=29) (by simp)
  have ze:W4.frozen? ⟨be,0,none⟩=false:=frozen_of_row _ _ _ _ _ (Ka.out.rows (be,Obj.cells #[.int .i64 0] 29 (0,0)) (by simp))
  go_wp2
  refine ⟨_,results_errno rfl _ _ ⟨be,0,none⟩ _ rfl HX.out.1,?_⟩
  rw [HD.out]
  exact ⟨rfl,_,HX.out.2.1,rfl⟩
 subst hz
 have hO:=Kz.out
 rw [if_neg (by decide)] at hO
 have Zk:=hid hO
 clear hO
 by_cases hok:okA x=true
 case neg=>
  have hokf:okA x=false:=by simpa using hok
  have HD:=hid (show O=(101,s.abs) from by rw [Zk.out,if_pos hokf])
  have Kk:=hid (encode_bad (Zi.out.keep Kq.out) HL.out hokf)
  clear hok hokf
  go_wp2_with fail
  refine Kk.out.mono ?_
  rintro e W5 ⟨rfl,hu5⟩
  have Ki:=hid (Ka.out.upd hu5)
  have Kn:=hid (Km.out.then_upd hu5 (fun _ e=>e.elim))
  clear hu5 cd cp q0 q1 q2 q3 q4 q5 q6 hql
  go_upto_region 5 with fail
  have Kd:=hid (Ki.out.push (.cells #[.slice none 0 0] 22))
  have Kh:=hid (Kn.out.alloc (.cells #[.slice none 0 0] 22))
  generalize W5.alloc (.cells #[.slice none 0 0] 22)=W6 at Kd Kh⊢
  have HX:=hid (swap_out Kh.out (Kd.out.rows (be,Obj.cells #[.int .i64 0] 29 (0,0)) (by simp)) Kp.out (Kd.out.out (be,Obj.cells #[.int .i64 0] 29 (0,0)) (by simp)) 101)
  have ce:=Kd.out.cell (b:=be) (v:=.int .i64 0) (t:=29) (by simp)
  have ze:W6.frozen? ⟨be,0,none⟩=false:=frozen_of_row _ _ _ _ _ (Kd.out.rows (be,Obj.cells #[.int .i64 0] 29 (0,0)) (by simp))
  go_wp2
  refine ⟨_,results_errno rfl _ _ ⟨be,0,none⟩ _ rfl HX.out.1,?_⟩
  rw [HD.out]
  exact ⟨rfl,_,HX.out.2.1,rfl⟩
 have hO:=Zk.out
 rw [if_neg (by rw [hok];decide)] at hO
 have Kr:=hid hO
 have Jr:=hid (show 1≤xg∧xg≤1099511627776 from by rw [Zj.out];exact okA_gen hok)
 have Kk:=hid (encode_any (Zt.out.keep Kq.out) (Zi.out.keep Kq.out) hok)
 clear hO hok
 obtain ⟨bytes,hbytes⟩:∃b,b=encodeB x:=⟨_,rfl⟩
 rw [←hbytes] at Kk Kr
 have Jo:=hid (show bytes≠[] from by rw [hbytes];simp [encodeB,magicB])
 clear hbytes
 go_wp2_with fail
 refine Kk.out.mono ?_
 rintro e W5 ⟨v',rfl,hn5⟩
 have Ki:=hid (Ka.out.upd hn5.upd)
 have Kn:=hid (Km.out.then_upd hn5.upd (fun _ e=>e.elim))
 obtain ⟨gb,cb,cur,rfl,hrow,hc1,hc2,hc3,hc4⟩:=hn5.data.resolve_left (fun e=>Jo.out e.2)
 have Ja:=hid (show gb∉s.blocks from fun e=>by have h1:=Ka.out.ins.lt _ e;have h2:=hn5.new gb rfl;omega)
 have Zb:=hid hrow
 have Zc:=hid (And.intro hc1 (And.intro hc2 (And.intro hc3 hc4)))
 have Jt:=hid (show gb≠be from fun e=>by have h1:=lt_of_heap (Ka.out.rows (be,Obj.cells #[.int .i64 0] 29 (0,0)) (by simp));have h2:=hn5.new gb rfl;omega)
 obtain ⟨nb,hnb⟩:∃n,n=bytes.length:=⟨_,rfl⟩
 rw [←hnb]
 have Jb:=hid hnb
 have Jc:=hid ((Zt.out.keep Kq.out).keep hn5.upd)
 clear hn5 cd cp q0 q1 q2 q3 q4 q5 q6 hql hrow hc1 hc2 hc3 hc4 hnb
 have Zd:Hid (Beside W5 s p ((gb,Obj.cells cur 5 (0,0)) :: [(bd,Obj.cells #[.pointer (some ⟨p,0,none⟩)] 28 (0,0)),(bp,Obj.cells #[.string pre] 9 (0,0)),(bx,Obj.cells #[.int .i64 xg,.int .i64 x.flushed,.int .i64 x.next,.int .i64 x.low,.int .i64 x.clock,.slice s1 m1 d1,.slice s2 m2 d2] 25 (0,0)),(be,Obj.cells #[.int .i64 0] 29 (0,0))])):=by
  refine ⟨Ki.out.ins,Ki.out.pp,fun r hr=>?_,fun r hr=>?_⟩
  ·rcases List.mem_cons.1 hr with rfl|hr
   ·exact Zb.out
   ·exact Ki.out.rows r hr
  ·rcases List.mem_cons.1 hr with rfl|hr
   ·exact Ja.out
   ·exact Ki.out.out r hr
 go_upto_region 5 with fail
 have Kd:=hid (Zd.out.push (.cells #[.slice (some ⟨gb,0,none⟩) nb cb] 22))
 have Kh:=hid (Kn.out.alloc (.cells #[.slice (some ⟨gb,0,none⟩) nb cb] 22))
 have Zl:=hid (Jc.out.keep ((Upd.refl (fun _=>False) W5).alloc (.cells #[.slice (some ⟨gb,0,none⟩) nb cb] 22)))
 obtain ⟨b8,hb8⟩:∃b,b=W5.heap.size:=⟨_,rfl⟩
 rw [←hb8] at Kd⊢
 have Js:=hid (show b8≠be from fun e=>by have h1:=lt_of_heap (Ki.out.rows (be,Obj.cells #[.int .i64 0] 29 (0,0)) (by simp));omega)
 clear hb8
 generalize W5.alloc (.cells #[.slice (some ⟨gb,0,none⟩) nb cb] 22)=W6 at Kd Kh Zl⊢
 clear Ki Zd Kn Jc Zb Ja
 have cd:=Kd.out.cell (b:=bd) (v:=.pointer (some ⟨p,0,none⟩)) (t:=28) (by simp)
 have cp:=Kd.out.cell (b:=bp) (v:=.string pre) (t:=9) (by simp)
 have Zm:=hid (load_any Zl.out Kd.out.ins Jm.out pre hp)
 rw [Kd.out.pp] at Zm
 go_wp2_with fail
 refine Zm.out.mono ?_
 rintro e W7 ⟨hres,t1,hst7,habs⟩
 obtain ⟨g0,y2,y3,y4,y5,a1,n1,c1,a2,n2,c2,isb,rfl,hg0,hg1,hg2⟩:=hres.shape
 have Jp:=hid hg0
 obtain ⟨e1,he1⟩:∃e,e=(loadP s.abs pre).1.2:=⟨_,rfl⟩
 rw [←he1,←hg0,←habs] at Kr
 rw [←he1]
 have Jd:=hid (Kd.out.step hst7)
 have Ze:=hid (Kh.out.trans hst7)
 clear hres hst7 habs hg0 he1 cd cp Zm
 go_upto_region 8 with fail
 have Kb:=hid (Jd.out.push (.cells #[.int .i64 g0,.int .i64 y2,.int .i64 y3,.int .i64 y4,.int .i64 y5,.slice a1 n1 c1,.slice a2 n2 c2] 25))
 have Kj:=hid (Ze.out.alloc (.cells #[.int .i64 g0,.int .i64 y2,.int .i64 y3,.int .i64 y4,.int .i64 y5,.slice a1 n1 c1,.slice a2 n2 c2] 25))
 obtain ⟨b10,hb10⟩:∃b,b=W7.heap.size:=⟨_,rfl⟩
 rw [←hb10] at Kb⊢
 clear hb10
 generalize W7.alloc (.cells #[.int .i64 g0,.int .i64 y2,.int .i64 y3,.int .i64 y4,.int .i64 y5,.slice a1 n1 c1,.slice a2 n2 c2] 25)=W8 at Kb Kj⊢
 clear Jd Ze Kd Kh Zl Km Ka
 by_cases hz:e1=0
 case neg=>
  have HD:=hid (show O=(e1,t1.abs) from by rw [Kr.out,if_pos hz])
  have hnb:(e1 != 0)=true:=by simpa using hz
  clear hz
  have HX:=hid (swap_out Kj.out (Kb.out.rows (be,Obj.cells #[.int .i64 0] 29 (0,0)) (by simp)) Kp.out (Kb.out.out (be,Obj.cells #[.int .i64 0] 29 (0,0)) (by simp)) e1)
  have ce:=Kb.out.cell (b:=be) (v:=.int .i64 0) (t:=29) (by simp)
  have ze:W8.frozen? ⟨be,0,none⟩=false:=frozen_of_row _ _ _ _ _ (Kb.out.rows (be,Obj.cells #[.int .i64 0] 29 (0,0)) (by simp))
  go_wp2
  refine ⟨_,results_errno rfl _ _ ⟨be,0,none⟩ _ rfl HX.out.1,?_⟩
  rw [HD.out]
  exact ⟨rfl,_,HX.out.2.1,rfl⟩
 subst hz
 have hO:=Kr.out
 rw [if_neg (by decide)] at hO
 have Zn:=hid hO
 clear hO
 obtain ⟨⟨q0,q1,q2,q3,q4,q5,q6⟩,-,hql⟩:=verCells (Kb.out.rows (bx,Obj.cells #[.int .i64 xg,.int .i64 x.flushed,.int .i64 x.next,.int .i64 x.low,.int .i64 x.clock,.slice s1 m1 d1,.slice s2 m2 d2] 25 (0,0)) (by simp))
 obtain ⟨⟨z0,z1,z2,z3,z4,z5,z6⟩,-,hzl⟩:=verCells (Kb.out.rows (b10,Obj.cells #[.int .i64 g0,.int .i64 y2,.int .i64 y3,.int .i64 y4,.int .i64 y5,.slice a1 n1 c1,.slice a2 n2 c2] 25 (0,0)) (by simp))
 clear q1 q2 q3 q4 q5 q6 z1 z2 z3 z4 z5 z6
 by_cases hgn:xg=g0+1
 case neg=>
  have HD:=hid (show O=(102,t1.abs) from by rw [Zn.out,if_pos (by rw [←Zj.out];exact hgn)])
  have hnb:(xg != g0+1)=true:=by simpa using hgn
  clear hgn
  have HX:=hid (swap_out Kj.out (Kb.out.rows (be,Obj.cells #[.int .i64 0] 29 (0,0)) (by simp)) Kp.out (Kb.out.out (be,Obj.cells #[.int .i64 0] 29 (0,0)) (by simp)) 102)
  have ce:=Kb.out.cell (b:=be) (v:=.int .i64 0) (t:=29) (by simp)
  have ze:W8.frozen? ⟨be,0,none⟩=false:=frozen_of_row _ _ _ _ _ (Kb.out.rows (be,Obj.cells #[.int .i64 0] 29 (0,0)) (by simp))
  go_wp2
  refine ⟨_,results_errno rfl _ _ ⟨be,0,none⟩ _ rfl HX.out.1,?_⟩
  rw [HD.out]
  exact ⟨rfl,_,HX.out.2.1,rfl⟩
 have HD:=hid (show O=strokeP t1.abs pre bytes from by rw [Zn.out,if_neg (by rw [←Zj.out];exact fun e=>e hgn)])
 have hnb:(xg != g0+1)=false:=by simpa using hgn
 have cp:=Kb.out.cell (b:=bp) (v:=.string pre) (t:=9) (by simp)
 clear hgn Kz Zk Kr Zn Jp Kk
 go_upto_region 15 with fail
 obtain ⟨b12,hb12⟩:∃b,b=W8.heap.size:=⟨_,rfl⟩
 have Zo:=hid (Kb.out.push (.cells #[.string (pre++tempB)] 9))
 have Zf:=hid (Kj.out.alloc (.cells #[.string (pre++tempB)] 9))
 have hb12e:b12≠be:=fun e=>by have h1:=lt_of_heap (Kb.out.rows (be,Obj.cells #[.int .i64 0] 29 (0,0)) (by simp));omega
 have hsz:(W8.alloc (.cells #[.string (pre++tempB)] 9)).heap.size=b12+1:=by rw [World.size_alloc,hb12]
 rw [←hb12] at Zo⊢
 obtain ⟨b13,hb13⟩:∃b,b=b12+1:=⟨_,rfl⟩
 rw [←hb13] at hsz⊢
 have Kc:=hid (Zo.out.push (.cells ((stepsV bd b12 b8 bp pre bytes).map fnV).toArray 124))
 have Kf:=hid (Zf.out.alloc (.cells ((stepsV bd b12 b8 bp pre bytes).map fnV).toArray 124))
 rw [hsz] at Kc
 have Ks:=hid hb12e
 clear hb12e hsz hb12 hb13 q0 hql z0 hzl cp
 generalize hW10:(W8.alloc (.cells #[.string (pre++tempB)] 9)).alloc (.cells ((stepsV bd b12 b8 bp pre bytes).map fnV).toArray 124)=W10 at Kc Kf
 have hW10':=hW10
 simp only [stepsV,fnV,List.map_cons,List.map_nil] at hW10'
 rw [hW10']
 clear hW10 hW10' Zo Zf Kb Kj
 have cd:=Kc.out.cell (b:=bd) (v:=.pointer (some ⟨p,0,none⟩)) (t:=28) (by simp)
 have cf:=Kc.out.cell (b:=b12) (v:=.string (pre++tempB)) (t:=9) (by simp)
 have Za:=hid (there_any Kc.out.ins (pre++tempB))
 rw [Kc.out.pp] at Za
 obtain ⟨th,hth⟩:∃t,t=decide (lookP t1.abs (pre++tempB) true=0):=⟨_,rfl⟩
 rw [←hth] at Za
 have Kt:=hid hth
 clear hth
 go_wp2_with fail
 refine Za.out.mono ?_
 rintro e W ⟨rfl,hww⟩
 obtain rfl:=hww.symm
 go_upto_if 59 with fail
 go_cut [13] from 60 to 75 (fun sv wx=>∃bs nn cc R fs,sv=.slice (some ⟨bs,0,none⟩) nn cc∧nn=fs.length∧nn≤5∧Beside wx t1 p R∧StepsAt wx t1 p R bs fs∧(be,Obj.cells #[.int .i64 0] 29 (0,0))∈R∧(bd,Obj.cells #[.pointer (some ⟨p,0,none⟩)] 28 (0,0))∈R∧(b12,Obj.cells #[.string (pre++tempB)] 9 (0,0))∈R∧Step w wx s t1∧fs.map (·.2.2)=stepsP t1.abs pre bytes)
 case first=>
  cases th
  ·skip
   go_wp2
   go_meet
   case rel=>
    refine ⟨b13,4,4,_,stepsV bd b12 b8 bp pre bytes,rfl,rfl,by omega,Kc.out,⟨⟨_,List.mem_cons_self,rfl⟩,fun f hf=>stepsV_does (gb:=gb) (cb:=cb) (cur:=cur) Jb.out (by simp) (by simp) (by simp) (by simp) (by simp) Zc.out hp f (List.mem_cons_of_mem _ hf)⟩,by simp,by simp,by simp,Kf.out,?_⟩
    unfold stepsP
    rw [if_neg (by have:=Kt.out;simpa using this)]
    rfl
  ·skip
   obtain ⟨g,cap,cur2,w2,hr,hcur,hB11,hu11⟩:=ahead_run (f6:=.func (.func 66) #[] #[.pointer (some ⟨bd,0,none⟩),.pointer (some ⟨b12,0,none⟩)]) Kc.out (b13:=b13) (fs:=(stepsV bd b12 b8 bp pre bytes).map fnV) (by simp) rfl (by intro u hu;simp only [stepsV,fnV,List.map_cons,List.map_nil,List.mem_cons,List.not_mem_nil,or_false] at hu;rcases hu with rfl|rfl|rfl|rfl<;>rfl) (by simp)
   have HR:Hid ((Builtin.append_ #[126,126] 126 #[.slice (some ⟨W10.heap.size,0,none⟩) 1 1,.slice (some ⟨b13,0,none⟩) 4 4]).run Tryz.prog (W10.alloc (.cells #[.func (.func 66) #[] #[.pointer (some ⟨bd,0,none⟩),.pointer (some ⟨b12,0,none⟩)]] 124))=.ok (.slice (some ⟨g,0,none⟩) 5 cap) w2):=hid hr
   have Je:=hid hB11
   have Jf:=hid hcur
   have Zp:=hid (Kf.out.then_upd hu11 (fun k e=>by rw [e];exact ⟨Kf.out.upd.size,fun e2=>by have:=Kc.out.ins.lt _ e2;omega⟩))
   clear hr hB11 hu11 hcur
   go_wp2_with (at_builtin;refine wpList_append_run rfl _ _ _ rfl rfl rfl HR.out ?_)
   go_meet
   case rel=>
    refine ⟨g,5,cap,_,stepsV6 bd b12 b8 bp pre bytes,rfl,rfl,by omega,Je.out,⟨⟨_,List.mem_cons_self,Jf.out⟩,stepsV_does (gb:=gb) (cb:=cb) (cur:=cur) Jb.out (by simp) (by simp) (by simp) (by simp) (by simp) Zc.out hp⟩,by simp,by simp,by simp,Zp.out,?_⟩
    unfold stepsP
    rw [if_pos (by have:=Kt.out;simpa using this)]
    rfl
 case rest=>
  obtain ⟨bs,nn,cc,R,fs,hv13,hnn,hn5,hBR,hSA,hme,hmd,hmf,hstr,hfs⟩:=hcut
  subst hv13
  obtain ⟨w1,rfl⟩:∃w1,w1=wc:=⟨_,rfl⟩
  have Jg:=hid hBR;have Jh:=hid hSA;have Ke:=hid hme;have Ji:=hid hmd;have Jj:=hid hmf;have Zg:=hid hstr;have Jq:=hid hfs;have Jk:=hid hnn
  clear hBR hSA hme hmd hmf hstr hfs hnn cd cf Za Kt Kc Kf
  obtain ⟨ST,hST⟩:∃ST,ST=runP (stepsP t1.abs pre bytes) t1.abs:=⟨_,rfl⟩
  have Ku:=hid hST
  clear hST
  go_wp2
  go_loopw [66] (fun iv wr=>∃k:Nat,iv=.int .i64 k∧k≤nn∧∃sk,Beside wr sk p R∧Step w wr s sk∧ST=runP ((fs.drop k).map (·.2.2)) sk.abs) (fun iv _=>nn-(intOf iv).toNat)
  case atStart=>exact ⟨0,rfl,by omega,t1,Jg.out,Zg.out,by rw [Ku.out,←Jq.out,List.drop_zero]⟩
  case round=>
   obtain ⟨k,rfl,hk,sk,hbk,hstk,hrk⟩:=hrel
   have Kg:=hid hbk;have Kv:=hid hstk;have Zq:=hid hrk
   obtain ⟨wo,rfl⟩:∃wo,wo=wr:=⟨_,rfl⟩
   clear hbk hstk hrk Zg Jg
   by_cases hlt:k<nn
   ·have hkl:k<fs.length:=by have:=Jk.out;omega
    have hc:=Jh.out.cell Kg.out hkl
    have Kw:=hid (runP_at hkl sk.abs)
    obtain ⟨hen,hdo⟩:=Jh.out.does _ (List.getElem_mem hkl)
    have Kx:=hid (hdo _ _ Kg.out)
    rcases hfk:fs[k] with ⟨G,caps,f⟩
    rw [hfk] at hc hen Kx Kw
    simp only at hc hen Kx Kw
    obtain ⟨en,hend⟩:∃e,e=(f sk.abs).1:=⟨_,rfl⟩
    rw [←hend] at Kx Kw
    have Kk:=hid hend
    clear hdo hfk hkl hend
    go_wp2_with fail
    refine Kx.out.mono ?_
    rintro e w2 ⟨rfl,sn,hstn,habn⟩
    have Ko:=hid hstn;have Zh:=hid habn
    clear hstn habn hc hen Kx
    by_cases hz:en=0
    ·subst hz
     have Ky:=hid (show ST=runP ((fs.drop (k+1)).map (·.2.2)) sn.abs from by rw [Zq.out,Kw.out,if_neg (by decide),Zh.out])
     go_wp2
     go_roundw
     case rel=>exact ⟨k+1,by simp,by omega,sn,Kg.out.step Ko.out,Kv.out.trans Ko.out,Ky.out⟩
     case measure=>simp [intOf];omega
    ·have hnz:(en != 0)=true:=by simpa using hz
     have Ky:=hid (show runP (stepsP t1.abs pre bytes) t1.abs=(en,sn.abs) from by rw [←Ku.out,Zq.out,Kw.out,if_pos hz,Zh.out,Kk.out])
     have Kl:=hid (Kg.out.step Ko.out)
     have HX:=hid (swap_out (Kv.out.trans Ko.out) (Kl.out.rows _ Ke.out) Kp.out (Kl.out.out _ Ke.out) en)
     have ce:=Kl.out.cell Ke.out
     have ze:w2.frozen? ⟨be,0,none⟩=false:=frozen_of_row _ _ _ _ _ (Kl.out.rows _ Ke.out)
     have Zr:=hid (Kl.out.err (R':=[(bd,Obj.cells #[.pointer (some ⟨p,0,none⟩)] 28 (0,0)),(b12,Obj.cells #[.string (pre++tempB)] 9 (0,0))]) (fun r hr=>by simp only [List.mem_cons,List.not_mem_nil,or_false] at hr;rcases hr with rfl|rfl;exact ⟨Ji.out,Zu.out.1⟩;exact ⟨Jj.out,Ks.out⟩) (Kl.out.out _ Ke.out) en)
     clear hz
     go_wp2
     have Zs:=hid (strokeP_of Ky.out)
     refine leaves_cons (f:=58) (args:=#[.pointer (some ⟨be,0,none⟩),.pointer (some ⟨bd,0,none⟩),.pointer (some ⟨b12,0,none⟩)]) (by simp) (by simp [go_sem]) ?_
     refine (swap1_any .returning Zr.out HX.out.1 List.mem_cons_self (List.mem_cons_of_mem _ List.mem_cons_self)).mono ?_
     rintro e u' w3 ⟨rfl,rfl,sf,hstf,habf⟩
     refine ⟨_,results_errno rfl _ _ ⟨be,0,none⟩ (.int .i64 en) rfl ?_,?_⟩
     ·have h:=hstf.upd.get HX.out.2.2 (Kl.out.out _ Ke.out)
      rw [cell_of_row _ be 0 _ _ _ h];rfl
     ·rw [HD.out,Zs.out]
      exact ⟨rfl,sf,HX.out.2.1.trans hstf,habf⟩
   ·have hke:k=nn:=by omega
    have Ky:=hid (show runP (stepsP t1.abs pre bytes) t1.abs=(0,sk.abs) from by rw [←Ku.out,Zq.out,hke,Jk.out,List.drop_length];rfl)
    have HX:=hid (swap_out Kv.out (Kg.out.rows _ Ke.out) Kp.out (Kg.out.out _ Ke.out) 0)
    have ce:=Kg.out.cell Ke.out
    have ze:wo.frozen? ⟨be,0,none⟩=false:=frozen_of_row _ _ _ _ _ (Kg.out.rows _ Ke.out)
    have Zr:=hid (Kg.out.err (R':=[(bd,Obj.cells #[.pointer (some ⟨p,0,none⟩)] 28 (0,0)),(b12,Obj.cells #[.string (pre++tempB)] 9 (0,0))]) (fun r hr=>by simp only [List.mem_cons,List.not_mem_nil,or_false] at hr;rcases hr with rfl|rfl;exact ⟨Ji.out,Zu.out.1⟩;exact ⟨Jj.out,Ks.out⟩) (Kg.out.out _ Ke.out) 0)
    clear hke
    go_wp2
    have Zs:=hid (strokeP_of Ky.out)
    refine leaves_cons (f:=58) (args:=#[.pointer (some ⟨be,0,none⟩),.pointer (some ⟨bd,0,none⟩),.pointer (some ⟨b12,0,none⟩)]) (by simp) (by simp [go_sem]) ?_
    refine (swap1_any .returning Zr.out HX.out.1 List.mem_cons_self (List.mem_cons_of_mem _ List.mem_cons_self)).mono ?_
    rintro e u' w3 ⟨rfl,rfl,sf,hstf,habf⟩
    refine ⟨_,results_errno rfl _ _ ⟨be,0,none⟩ (.int .i64 0) rfl ?_,?_⟩
    ·have h:=hstf.upd.get HX.out.2.2 (Kg.out.out _ Ke.out)
     rw [cell_of_row _ be 0 _ _ _ h];rfl
    ·rw [HD.out,Zs.out]
     exact ⟨rfl,sf,HX.out.2.1.trans hstf,habf⟩
end Go.Proofs.YtgaidmohdhaonaaGreatDoor
