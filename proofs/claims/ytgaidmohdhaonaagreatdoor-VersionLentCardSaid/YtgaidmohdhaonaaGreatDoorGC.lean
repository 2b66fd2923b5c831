/-
  Package disk, walked: Create.
  One file of a disk has turned; Sync.
  Package disk, walked: drop, Delete.
-/
import Derived.Test.YtgaidmohdhaonaaGreatDoorGA
import Derived.StillTailTactics
import Derived.Deep.RegionLaw
set_option linter.unusedVariables false
set_option linter.unusedSimpArgs false
set_option linter.unnecessarySimpa false
set_option linter.unusedSectionVars false
set_option maxRecDepth 100000
set_option maxHeartbeats 2000000
namespace Go.Proofs.YtgaidmohdhaonaaGreatDoor
open Go Go.RowKit
theorem put_new:∀(E:List (ByteArray×Value)) (k:ByteArray) (v:Value),look E k=none→put E k v=E ++ [(k,v)]
 | [],_,_,_=>rfl
 | p :: E,k,v,h=>by
  rw [look_cons] at h
  by_cases hp:p.1=k
  ·rw [if_pos hp] at h;cases h
  ·rw [if_neg hp] at h
   simp [put,hp,put_new E k v h]
theorem look_none_of {s:DS} {n:ByteArray} (h:s.fileAt n=none):look s.entries n=none:=by
 unfold DS.entries
 rw [look_entries]
 unfold DS.fileAt at h
 rw [h];rfl
theorem fileAt_none {s:DS} {n:ByteArray} (h:s.fileAt n=none):∀r∈s.recs,r.name≠n:=by
 intro r hr e
 unfold DS.fileAt at h
 rw [List.find?_eq_none] at h
 exact h r hr (by rw [beq_bytes];simp [e])
def newRec (n:ByteArray) (b:Nat):FRec:=⟨n,b,.slice none 0 0,[],0⟩
theorem usedOf_append (l l':List FRec):usedOf (l++l')=usedOf l+usedOf l':=by simp [usedOf]
theorem recBlocks_append (l l':List FRec):recBlocks (l++l')=recBlocks l++recBlocks l':=by simp [recBlocks]
theorem DS.In.added {w w':World} {s:DS} (h:s.In w) {n:ByteArray} (hn:s.fileAt n=none) (hok:nameOk n.data.toList=true) (hc:s.recs.length<256) {b:Nat} (hb:w.heap.size≤b)
  (hu:Upd (fun k=>k=s.m) w w') (hm:MapIs w' s.m (put s.entries n (.pointer (some ⟨b,0,none⟩)))) (hf:w'.heap[b]? = some (.cells #[.slice none 0 0,.int .i64 0] 155 (0,0))) :
  Step w w' s { s with recs:=s.recs ++ [newRec n b] }:=by
 have hnm:s.p≠s.m:=h.pm
 have hrm:∀k∈recBlocks s.recs,k≠s.m:=by
  intro k hk e
  have:=h.blocks
  simp only [DS.blocks,List.nodup_cons] at this
  exact this.2.1 (e ▸ hk)
 have hbl:({ s with recs:=s.recs ++ [newRec n b] } : DS).blocks=s.blocks ++ [b]:=by
  simp [DS.blocks,recBlocks_append,recBlocks,newRec,FRec.blocks,Value.ownBlock]
 have hbn:b∉s.blocks:=fun hm'=>by have:=h.lt b hm';omega
 refine ⟨⟨?_,?_,?_,?_,?_,?_,?_,h.cap,h.armed,trivial⟩,rfl,hu.mono ?_,?_⟩
 ·have e:({ s with recs:=s.recs ++ [newRec n b] } : DS).cells=s.cells:=by simp [DS.cells,DS.used,usedOf,newRec]
  rw [e];exact hu.get h.top hnm
 ·rw [put_new _ _ _ (look_none_of hn)] at hm
  have e:({ s with recs:=s.recs ++ [newRec n b] } : DS).entries=s.entries ++ [(n,.pointer (some ⟨b,0,none⟩))]:=by simp [DS.entries,FRec.entry,newRec]
  rw [e];exact hm
 ·intro r hr
  simp only [List.mem_append,List.mem_singleton] at hr
  rcases hr with hr|rfl
  ·refine (h.files r hr).of_blocks (fun k hk=>?_)
   have hk':k∈recBlocks s.recs:=mem_recBlocks.2 ⟨r,hr,hk⟩
   exact hu.block k (h.lt k (by simp [DS.blocks,hk'])) (hrm k hk')
  ·exact ⟨hf,.inl ⟨rfl,rfl⟩,Nat.le_refl _,hok⟩
 ·simp only [List.map_append,List.map_cons,List.map_nil,newRec]
  rw [List.nodup_append]
  refine ⟨h.names,by simp,?_⟩
  intro x hx y hy
  simp only [List.mem_singleton] at hy
  subst hy
  obtain ⟨r,hr,rfl⟩:=List.mem_map.1 hx
  exact fileAt_none hn r hr
 ·rw [hbl,List.nodup_append]
  refine ⟨h.blocks,by simp,?_⟩
  intro x hx y hy
  simp only [List.mem_singleton] at hy
  subst hy
  intro e;exact hbn (e ▸ hx)
 ·simp;omega
 ·have:=h.room
  simpa [DS.used,usedOf,newRec] using this
 ·intro k _ e
  subst e;simp [DS.blocks]
 ·intro k hk
  rw [hbl] at hk
  simp only [List.mem_append,List.mem_singleton] at hk
  rcases hk with hk|rfl
  ·exact .inl hk
  ·exact .inr hb
theorem create1_any {w:World} {s:DS} (hs:s.In w) {n:ByteArray} {b1 b2:Nat} (h1:w.cell? ⟨b1,0,none⟩=some (.pointer (some ⟨s.p,0,none⟩))) (h2:w.cell? ⟨b2,0,none⟩=some (.string n))
  (hn:s.fileAt n=none) (hok:nameOk n.data.toList=true) (hc:s.recs.length<256) :
  Calls Tryz.prog 91 #[.pointer (some ⟨b1,0,none⟩),.pointer (some ⟨b2,0,none⟩)] w fun e w'=>e=.returned (.tuple #[])∧∃s2,Step w w' s s2∧s2.cap=s.cap∧s2.down=s.down∧s2.armed=s.armed∧s2.cnt=s.cnt∧
   s2.recs.map FRec.abs=s.recs.map FRec.abs ++ [⟨n,[],0⟩]:=by
 have cm:=hs.c_map
 obtain ⟨w3,hrun,hm,hu⟩:=run_mapUpdate_str (P:=Tryz.prog) (w:=(w.alloc (.cells #[.slice none 0 0,.int .i64 0] 155)).drew) Tryz.underlying118 Tryz.underlying9 (hs.map.of_block (heap_alloc_past _ _ _ hs.map.lt)) n (.pointer (some ⟨w.heap.size,0,none⟩))
 have HS:=hid hs;have HM:=hid hm;have HU:=hid hu
 have hp:=hs.plt
 have hb1:b1<w.heap.size:=World.block_lt_of_cell? w _ h1
 have hb2:b2<w.heap.size:=World.block_lt_of_cell? w _ h2
 have hml:=hs.map.lt
 clear hs hm hu
 go_enter Tryz.func91,Tryz.ntmps91
 go_wp2
 go_region
 go_end0
 refine ⟨rfl,_,HS.out.added hn hok hc (Nat.le_refl _) (((Upd.refl (fun k=>k=s.m) w).alloc _).drew.trans HU.out (fun k _ h=>h)) HM.out ?_,rfl,rfl,rfl,rfl,by simp [FRec.abs,newRec]⟩
 rw [HU.out.block w.heap.size (by simp) (by omega)]
 exact heap_alloc_new w _
theorem run_enters {P:Program} {G:Nat} {f:Func} (hf:P.funcs[G]? = some f) (hn:(f.name== "runtime.NumGoroutine")=false) (hb:f.body.isNone=false) (caps:Array Value) (w:World):(callFunc G caps).run P w=.ok (.enter G caps) w:=by
 have hb':f.body≠none:=by intro e;rw [e] at hb;cases hb
 have hn':¬f.name= "runtime.NumGoroutine":=by simpa using hn
 simp [callFunc,program,Sem.run,hf,hn',hb']
theorem run_lookup_fileN {w:World} {s:DS} (h:s.In w) (n:ByteArray) (k:Nat):(Instr.lookup 118 (.map (some s.m)) (.string n) false).run Tryz.prog (w.drewN k)=.ok (s.ptrAt n) (w.drewN k):=
 run_lookup_file (h.upd ((Upd.refl (fun _=>False) w).drewN k) (fun _ _ h=>h)) n
theorem run_len_files {w:World} {s:DS} (h:s.In w) (k ty:Nat):(Builtin.len_ #[118] ty #[.map (some s.m)]).run Tryz.prog (w.drewN k)=.ok (.int .i64 s.recs.length) (w.drewN k):=by
 have hw:s.In (w.drewN k):=h.upd ((Upd.refl (fun _=>False) w).drewN k) (fun _ _ h=>h)
 have:=run_len_map (P:=Tryz.prog) Tryz.underlying118 hw.map ty
 rw [show s.entries.length=s.recs.length from by simp [DS.entries]] at this
 exact this
def createA (s:DS) (n:ByteArray):Int×DiskA:=
 if lookRes s.down (nameOk n.data.toList) false (s.fileAt n).isSome≠0 then (lookRes s.down (nameOk n.data.toList) false (s.fileAt n).isSome,s.abs)
 else if (s.fileAt n).isSome then (41,s.abs)
 else if 256≤s.recs.length then (44,s.abs)
 else actA s.abs none (s.abs.files ++ [⟨n,[],0⟩])
theorem create_any {w:World} {s:DS} (hs:s.In w) (n:ByteArray) :
  Calls Tryz.prog 33 #[.pointer (some ⟨s.p,0,none⟩),.string n] w fun e w'=>e=.returned (.int .i64 (createA s n).1)∧∃s2,Step w w' s s2∧s2.abs=(createA s n).2:=by
 have hu2:Upd (fun _=>False) w ((w.alloc (.cells #[.pointer (some ⟨s.p,0,none⟩)] 28)).alloc (.cells #[.string n] 9)):=((Upd.refl _ _).alloc _).alloc _
 have hin:=hs.upd hu2 (fun _ _ h=>h)
 have hst:=Step.of_upd hs hu2
 have HL:=hid (look_any hin n false)
 have cm:=hin.c_map
 have Ka:=hid hin;have Kb:=hid hst;have Kc:=hid hs.plt
 clear hu2 hst
 by_cases h1:lookRes s.down (nameOk n.data.toList) false (s.fileAt n).isSome=0
 ·obtain ⟨hd,hok,_⟩:=lookRes_zero.1 h1
  have hlk:=run_lookup_fileN hin n
  unfold DS.ptrAt at hlk
  rw [h1] at HL
  by_cases h2:(s.fileAt n).isSome=true
  ·have hc:createA s n=(41,s.abs):=by unfold createA;rw [if_neg (by rw [h1];simp),if_pos h2]
   rw [hc]
   obtain ⟨r,hr⟩:=Option.isSome_iff_exists.1 h2
   rw [hr] at hlk
   simp only [] at hlk
   clear h1 h2 hc hin hs hd hok hr
   go_enter Tryz.func33,Tryz.ntmps33
   go_wp2_with (go_at_call 89;refine HL.out.mono ?_;rintro e w' ⟨rfl,rfl⟩)
   go_quiet (fail)
   go_wp2
   go_ret
   exact ⟨rfl,s,Kb.out.trans (Step.of_upd Ka.out ((Upd.refl _ _).drewN _)),rfl⟩
  ·have hfn:s.fileAt n=none:=by simpa using h2
   rw [hfn] at hlk
   simp only [] at hlk
   have hlen:=run_len_files hin
   by_cases h3:256≤s.recs.length
   ·have hc:createA s n=(44,s.abs):=by unfold createA;rw [if_neg (by rw [h1];simp),if_neg h2,if_pos h3]
    rw [hc]
    clear h1 h2 hc hin hs hd hok hfn
    go_enter Tryz.func33,Tryz.ntmps33
    go_wp2_with (go_at_call 89;refine HL.out.mono ?_;rintro e w' ⟨rfl,rfl⟩)
    go_quiet (fail)
    go_wp2
    go_ret
    exact ⟨rfl,s,Kb.out.trans (Step.of_upd Ka.out ((Upd.refl _ _).drewN _)),rfl⟩
   ·have hc:createA s n=actA s.abs none (s.abs.files ++ [⟨n,[],0⟩]):=by unfold createA;rw [if_neg (by rw [h1];simp),if_neg h2,if_neg h3]
    rw [hc]
    have hen:=fun caps W=>run_enters (P:=Tryz.prog) (G:=91) Tryz.func91 (by kernel_rfl) (by kernel_rfl) caps W
    have HF:=hid hfn;have HK:=hid hok;have H3:=hid h3;have HE:=hid hen
    have h3':(s.recs.length:Int)<256:=by omega
    clear h1 h2 hc hin hs hd hok hfn h3 hen
    go_enter Tryz.func33,Tryz.ntmps33
    go_wp2_with (go_at_call 89;refine HL.out.mono ?_;rintro e w' ⟨rfl,rfl⟩)
    go_quiet (fail)
    go_wp2_with fail
    have hin2:s.In ((((w.alloc (.cells #[.pointer (some ⟨s.p,0,none⟩)] 28)).alloc (.cells #[.string n] 9))).drewN nq):=Ka.out.upd ((Upd.refl (fun _=>False) _).drewN _) (fun _ _ h=>h)
    have hpl:=hin2.plt
    have hplt:s.p<w.heap.size:=Kc.out
    refine (act_any (co:=none) hin2 (HE.out _) (F:=s.abs.files ++ [⟨n,[],0⟩]) ?_ (by simp)).mono ?_
    ·intro W s1 hi1 hu e1 e2 e3 e4 e5
     have q1:W.cell? ⟨w.heap.size,0,none⟩=some (.pointer (some ⟨s1.p,0,none⟩)):=by
      rw [World.cell?_of_block (hu.block w.heap.size (by simp [World.drewN];omega) (by show w.heap.size≠s.p;omega)),e1]
      simp [go_sem]
     have q2:W.cell? ⟨w.heap.size+1,0,none⟩=some (.string n):=by
      rw [World.cell?_of_block (hu.block (w.heap.size+1) (by simp [World.drewN]) (by show w.heap.size+1≠s.p;omega))]
      simp [go_sem]
     refine (create1_any hi1 q1 q2 (by unfold DS.fileAt;rw [e3];exact HF.out) HK.out (by rw [e3];have:=H3.out;omega)).mono ?_
     rintro e W' ⟨rfl,s2,hst,c1,c2,c3,c4,c5⟩
     exact ⟨rfl,s2,hst,c1,c2,c3,c4,by rw [c5,e3];rfl⟩
    ·rintro e w1 ⟨rfl,s2,hst,habs⟩
     go_wp2
     go_ret
     exact ⟨rfl,s2,(Kb.out.trans (Step.of_upd Ka.out ((Upd.refl _ _).drewN _))).trans hst,habs⟩
 ·have hc:createA s n=(lookRes s.down (nameOk n.data.toList) false (s.fileAt n).isSome,s.abs):=by unfold createA;rw [if_pos h1]
  rw [hc]
  generalize lookRes s.down (nameOk n.data.toList) false (s.fileAt n).isSome=e0 at *
  have hb:(e0 != 0)=true:=by simpa using h1
  clear h1 hc hin hs cm
  go_enter Tryz.func33,Tryz.ntmps33
  go_wp2_with (go_at_call 89;refine HL.out.mono ?_;rintro e w' ⟨rfl,rfl⟩)
  go_ret
  exact ⟨rfl,s,Kb.out,rfl⟩
theorem nodup_replace {A B B' C:List Nat} {N:Nat} (h:(A++(B++C)).Nodup) (hB:B'.Nodup) (hs:∀k∈B',k∈B∨N≤k) (hlt:∀k∈A++(B++C),k<N):(A++(B'++C)).Nodup:=by
 simp only [List.nodup_append,List.mem_append] at h hlt⊢
 obtain ⟨h1,⟨h2,h3,h4⟩,h5⟩:=h
 refine ⟨h1,⟨hB,h3,?_⟩,?_⟩
 ·intro a ha b hb e
  subst e
  rcases hs a ha with h|h
  ·exact h4 a h a hb rfl
  ·have:=hlt a (.inr (.inr hb));omega
 ·intro a ha b hb e
  subst e
  rcases hb with hb|hb
  ·rcases hs a hb with h|h
   ·exact h5 a ha a (.inl h) rfl
   ·have:=hlt a (.inl ha);omega
  ·exact h5 a ha a (.inr hb) rfl
theorem name_inj {l:List FRec} (hnd:(l.map (·.name)).Nodup) {x y:FRec} (hx:x∈l) (hy:y∈l) (h:x.name=y.name):x=y:=by
 induction l with
 | nil=>cases hx
 | cons z l ih=>
  simp only [List.map_cons,List.nodup_cons,List.mem_map,not_exists,not_and] at hnd
  cases hx with
  | head=>cases hy with
   | head=>rfl
   | tail _ hy=>exact absurd h.symm (hnd.1 y hy)
  | tail _ hx=>cases hy with
   | head=>exact absurd h (hnd.1 x hx)
   | tail _ hy=>exact ih hnd.2 hx hy
def setRec (l:List FRec) (r':FRec):List FRec:=l.map (fun x=>if x.name=r'.name then r' else x)
theorem setRec_split {l:List FRec} {r r':FRec} (hnd:(l.map (·.name)).Nodup) (hr:r∈l) (hn:r'.name=r.name):∃pre post,l=pre++r :: post∧setRec l r'=pre++r' :: post:=by
 obtain ⟨pre,post,rfl⟩:=List.append_of_mem hr
 refine ⟨pre,post,rfl,?_⟩
 simp only [List.map_append,List.map_cons,List.nodup_append,List.nodup_cons,List.mem_map,List.mem_cons] at hnd
 obtain ⟨h1,⟨h2,h3⟩,h4⟩:=hnd
 unfold setRec
 rw [List.map_append,List.map_cons,if_pos hn.symm]
 have e1:pre.map (fun x=>if x.name=r'.name then r' else x)=pre:=by
  conv=>rhs;rw [←List.map_id pre]
  apply List.map_congr_left
  intro x hx
  rw [if_neg];rfl
  intro e
  exact h4 x.name ⟨x,hx,rfl⟩ r.name (.inl rfl) (e.trans hn)
 have e2:post.map (fun x=>if x.name=r'.name then r' else x)=post:=by
  conv=>rhs;rw [←List.map_id post]
  apply List.map_congr_left
  intro x hx
  rw [if_neg];rfl
  intro e
  exact h2 ⟨x,hx,e.trans hn⟩
 rw [e1,e2]
theorem nodup_of_blocks {A B C:List Nat} (h:(A++(B++C)).Nodup):B.Nodup:=by
 simp only [List.nodup_append] at h
 exact h.2.1.1
theorem DS.In.turned {w w':World} {s s2:DS} (h:s.In w) {r r':FRec} (hr:r∈s.recs) (hn:r'.name=r.name) (hb:r'.blk=r.blk) (hrecs:s2.recs=setRec s.recs r') (hp:s2.p=s.p) (hm:s2.m=s.m)
  (hcap:s2.cap=s.cap) (harm:0≤s2.armed∧s2.armed≤9223372036854775807) (hu:Upd (fun k=>k=s.p∨k∈r.blocks) w w') (hin:r'.In w')
  (htop:w'.heap[s.p]? = some (.cells s2.cells 122 (0,0))) (hroom:s2.used≤s2.cap)
  (hown:∀k,r'.dv.ownBlock=some k→r.dv.ownBlock=some k∨w.heap.size≤k):Step w w' s s2:=by
 obtain ⟨pre,post,h1,h2⟩:=setRec_split h.names hr hn
 have hlt:=h.lt
 have hnd:=h.blocks
 have eb:s.blocks=(s.p :: s.m :: recBlocks pre)++(r.blocks++recBlocks post):=by
  simp [DS.blocks,h1,recBlocks]
 have eb2:s2.blocks=(s.p :: s.m :: recBlocks pre)++(r'.blocks++recBlocks post):=by
  simp [DS.blocks,hrecs,h2,recBlocks,hp,hm]
 have hsub:∀k∈r'.blocks,k∈r.blocks∨w.heap.size≤k:=by
  intro k hk
  simp only [FRec.blocks,List.mem_cons,Option.mem_toList] at hk⊢
  rcases hk with rfl|hk
  ·exact .inl (.inl hb)
  ·exact (hown k hk).imp .inr id
 have hblt:r.blk<w.heap.size:=lt_of_heap (h.files r hr).cells
 have hrnd:r.blocks.Nodup:=by rw [eb] at hnd;exact nodup_of_blocks hnd
 have hr'nd:r'.blocks.Nodup:=by
  simp only [FRec.blocks,List.nodup_cons,Option.mem_toList] at hrnd⊢
  refine ⟨fun e=>?_,by cases r'.dv.ownBlock<;>simp⟩
  rcases hown _ e with h'|h'
  ·rw [hb] at h';exact hrnd.1 h'
  ·rw [hb] at h';omega
 rw [eb] at hnd hlt
 have hout:∀k∈s.m :: recBlocks pre++recBlocks post,¬(k=s.p∨k∈r.blocks):=by
  intro k hk
  have hnd':=hnd
  simp only [List.cons_append,List.nodup_cons,List.nodup_append,List.mem_cons,List.mem_append] at hnd' hk
  obtain ⟨n1,n2,n3,⟨n4,n5,n6⟩,n7⟩:=hnd'
  rintro (rfl|hkr)
  ·rcases hk with hk|hk|hk
   ·exact n1 (.inl hk)
   ·exact n1 (.inr (.inl hk))
   ·exact n1 (.inr (.inr (.inr hk)))
  ·rcases hk with rfl|hk|hk
   ·exact n2 (.inr (.inl hkr))
   ·exact n7 k hk k (.inl hkr) rfl
   ·exact n6 k hkr k hk rfl
 refine ⟨⟨by rw [hp];exact htop,?_,?_,?_,?_,?_,hroom,by rw [hcap];exact h.cap,harm,trivial⟩,hp,hu.mono ?_,?_⟩
 ·have e:s2.entries=s.entries:=by
   rw [DS.entries,DS.entries,hrecs,h2,h1]
   simp [FRec.entry,hn,hb]
  rw [hm,e]
  exact h.map.upd hu (hout _ (by simp))
 ·intro x hx
  rw [hrecs,h2] at hx
  have old:∀y,(y∈pre∨y∈post)→y.In w':=by
   intro y hy
   have hys:y∈s.recs:=by rw [h1];rcases hy with hy|hy<;>simp [hy]
   refine (h.files y hys).of_blocks (fun k hk=>?_)
   have hkm:k∈s.m :: recBlocks pre++recBlocks post:=by
    simp only [List.cons_append,List.mem_cons,List.mem_append]
    rcases hy with hy|hy
    ·exact .inr (.inl (mem_recBlocks.2 ⟨y,hy,hk⟩))
    ·exact .inr (.inr (mem_recBlocks.2 ⟨y,hy,hk⟩))
   refine hu.block k (hlt k ?_) (hout k hkm)
   simp only [List.cons_append,List.mem_cons,List.mem_append] at hkm⊢
   rcases hkm with h|h|h
   ·exact .inr (.inl h)
   ·exact .inr (.inr (.inl h))
   ·exact .inr (.inr (.inr (.inr h)))
  simp only [List.mem_append,List.mem_cons] at hx
  rcases hx with hx|rfl|hx
  ·exact old x (.inl hx)
  ·exact hin
  ·exact old x (.inr hx)
 ·have:=h.names
  rw [h1] at this
  rw [hrecs,h2]
  simpa [hn] using this
 ·rw [eb2];exact nodup_replace hnd hr'nd hsub hlt
 ·rw [hrecs];simpa [setRec] using h.count
 ·intro k _ hk
  rw [eb]
  simp only [List.cons_append,List.mem_cons,List.mem_append]
  rcases hk with hk|hk
  ·exact .inl hk
  ·exact .inr (.inr (.inr (.inl hk)))
 ·intro k hk
  rw [eb2] at hk
  rw [eb]
  simp only [List.cons_append,List.mem_cons,List.mem_append] at hk⊢
  rcases hk with hk|hk|hk|hk|hk
  ·exact .inl (.inl hk)
  ·exact .inl (.inr (.inl hk))
  ·exact .inl (.inr (.inr (.inl hk)))
  ·exact (hsub k hk).imp (fun h=>.inr (.inr (.inr (.inl h)))) id
  ·exact .inl (.inr (.inr (.inr (.inr hk))))
def updA (l:List FileA) (n:ByteArray) (g:FileA→FileA):List FileA:=l.map (fun f=>if f.name=n then g f else f)
theorem setRec_abs {l:List FRec} {r r':FRec} (hnd:(l.map (·.name)).Nodup) (hr:r∈l) (hn:r'.name=r.name) {g:FileA→FileA} (hg:g r.abs=r'.abs):(setRec l r').map FRec.abs=updA (l.map FRec.abs) r.name g:=by
 unfold setRec updA
 rw [List.map_map,List.map_map]
 apply List.map_congr_left
 intro x hx
 simp only [Function.comp,hn]
 by_cases e:x.name=r.name
 ·have hxr:x=r:=name_inj hnd hx hr e
  subst hxr
  rw [if_pos rfl,if_pos (by rfl),hg]
 ·rw [if_neg e,if_neg (by exact e)]
theorem DS.In.m_ne_blk {w:World} {s:DS} (h:s.In w) {r:FRec} (hr:r∈s.recs) {k:Nat} (hk:k∈r.blocks):k≠s.m:=by
 intro e
 have:=h.blocks
 simp only [DS.blocks,List.nodup_cons] at this
 exact this.2.1 (mem_recBlocks.2 ⟨r,hr,e ▸ hk⟩)
theorem DS.In.p_ne_blk {w:World} {s:DS} (h:s.In w) {r:FRec} (hr:r∈s.recs) {k:Nat} (hk:k∈r.blocks):k≠s.p:=by
 intro e
 have:=h.blocks
 simp only [DS.blocks,List.nodup_cons,List.mem_cons,not_or] at this
 exact this.1.2 (mem_recBlocks.2 ⟨r,hr,e ▸ hk⟩)
theorem usedOf_setRec {l:List FRec} {r r':FRec} (hnd:(l.map (·.name)).Nodup) (hr:r∈l) (hn:r'.name=r.name):usedOf (setRec l r')+r.data.length=usedOf l+r'.data.length:=by
 obtain ⟨pre,post,h1,h2⟩:=setRec_split hnd hr hn
 rw [h2,h1]
 simp [usedOf];omega
theorem sync1_any {w:World} {s:DS} (hs:s.In w) {r:FRec} (hr:r∈s.recs) {b1:Nat} (h1:w.cell? ⟨b1,0,none⟩=some (.pointer (some ⟨r.blk,0,none⟩))) :
  Calls Tryz.prog 126 #[.pointer (some ⟨b1,0,none⟩)] w fun e w'=>e=.returned (.tuple #[])∧∃s2,Step w w' s s2∧s2.cap=s.cap∧s2.down=s.down∧s2.armed=s.armed∧s2.cnt=s.cnt∧
   s2.recs.map FRec.abs=updA (s.recs.map FRec.abs) r.name (fun f=>{ f with synced:=f.data.length }):=by
 have hf:=hs.files r hr
 have c0:=hf.c_dv
 have c1:=hf.c_synced
 have f1:=frozen_of_row w r.blk 1 _ _ hf.cells
 obtain ⟨ao,cap,hdv,-,-,-,-⟩:=hf.data.shape
 have hst:Step w (w.setCell ⟨r.blk,1,none⟩ (.int .i64 r.data.length)).drew s { s with recs:=setRec s.recs { r with synced:=r.data.length } }:=by
  have hu:Upd (fun k=>k=r.blk) w (w.setCell ⟨r.blk,1,none⟩ (.int .i64 r.data.length)).drew:=(Upd.cell_only _ _ _ _).drew
  have hused:usedOf (setRec s.recs { r with synced:=r.data.length })=s.used:=by
   have:=usedOf_setRec hs.names hr (r':={ r with synced:=r.data.length }) rfl
   unfold DS.used;simp at this;omega
  refine hs.turned (r:=r) (r':={ r with synced:=r.data.length }) hr rfl rfl rfl rfl rfl rfl hs.armed (hu.mono (fun k _ h=>.inr (by simp [FRec.blocks,h]))) ⟨?_,?_,Nat.le_refl _,hf.name⟩ ?_ ?_ (fun k h=>.inl h)
  ·exact heap_setCell_at w r.blk 1 _ _ _ hf.cells
  ·exact hf.data.of_block (fun k hk=>hu.block k (hf.data.lt k hk) (fun e=>by
    have hb:=hs.blocks
    obtain ⟨pre,post,h1,-⟩:=setRec_split hs.names hr (r':=r) rfl
    rw [DS.blocks,h1] at hb
    simp [recBlocks,FRec.blocks,hk,e,List.nodup_append] at hb))
  ·have e:({ s with recs:=setRec s.recs { r with synced:=r.data.length } } : DS).cells=s.cells:=by simp [DS.cells,DS.used,hused]
   rw [e];exact hu.get hs.top (fun e=>hs.p_ne_blk hr (k:=r.blk) (by simp [FRec.blocks]) e.symm)
  ·have:=hs.room
   show usedOf _≤s.cap
   rw [hused];exact this
 rw [hdv] at c0
 have Ka:=hid hst;have HS:=hid hs
 clear hst hs hf hdv
 go_enter Tryz.func126,Tryz.ntmps126
 go_wp2
 go_region
 go_end0
 exact ⟨rfl,_,Ka.out,rfl,rfl,rfl,rfl,setRec_abs (r:=r) (r':={ r with synced:=r.data.length }) HS.out.names hr rfl rfl⟩
def syncA (s:DS) (n:ByteArray):Int×DiskA:=
 if lookRes s.down (nameOk n.data.toList) true (s.fileAt n).isSome≠0 then (lookRes s.down (nameOk n.data.toList) true (s.fileAt n).isSome,s.abs)
 else actA s.abs (some 7) (updA s.abs.files n (fun f=>{ f with synced:=f.data.length }))
theorem sync_any {w:World} {s:DS} (hs:s.In w) (n:ByteArray) :
  Calls Tryz.prog 62 #[.pointer (some ⟨s.p,0,none⟩),.string n] w fun e w'=>e=.returned (.int .i64 (syncA s n).1)∧∃s2,Step w w' s s2∧s2.abs=(syncA s n).2:=by
 have HL:=hid (look_any hs n true)
 have cm:=hs.c_map
 have hp:=hs.plt
 have HS:=hid hs
 by_cases h1:lookRes s.down (nameOk n.data.toList) true (s.fileAt n).isSome=0
 ·obtain ⟨hd,hok,hth⟩:=lookRes_zero.1 h1
  obtain ⟨r,hf⟩:=Option.isSome_iff_exists.1 (hth rfl)
  obtain ⟨hr,hnm⟩:=fileAt_mem hf
  have hlk:=run_lookup_file hs n
  unfold DS.ptrAt at hlk
  rw [h1] at HL
  have hc:syncA s n=actA s.abs (some 7) (updA s.abs.files n (fun f=>{ f with synced:=f.data.length })):=by unfold syncA;rw [if_neg (by rw [h1];simp)]
  rw [hc]
  rw [hf] at hlk
  simp only [] at hlk
  have hen:=fun caps W=>run_enters (P:=Tryz.prog) (G:=126) Tryz.func126 (by kernel_rfl) (by kernel_rfl) caps W
  have HR:=hid hr;have HE:=hid hen;have HN:=hid hnm
  clear h1 hc hs hd hok hf hr hen hth hnm
  go_enter Tryz.func62,Tryz.ntmps62
  go_wp2_with (go_at_call 89;refine HL.out.mono ?_;rintro e w' ⟨rfl,rfl⟩)
  have hu:=(Upd.refl (fun _=>False) w').alloc (.cells #[.pointer (some ⟨r.blk,0,none⟩)] 152)
  have hin:=HS.out.upd hu (fun _ _ h=>h)
  refine (act_any (co:=some 7) hin (HE.out _) (F:=updA s.abs.files n (fun f=>{ f with synced:=f.data.length })) ?_ (by simp)).mono ?_
  ·intro W s1 hi1 hu1 e1 e2 e3 e4 e5
   have q1:W.cell? ⟨w'.heap.size,0,none⟩=some (.pointer (some ⟨r.blk,0,none⟩)):=by
    rw [World.cell?_of_block (hu1.block w'.heap.size (by simp) (by show w'.heap.size≠s.p;omega))]
    simp [go_sem]
   refine (sync1_any hi1 (r:=r) (by rw [e3];exact HR.out) q1).mono ?_
   rintro e W' ⟨rfl,s2,hst,c1,c2,c3,c4,c5⟩
   exact ⟨rfl,s2,hst,c1,c2,c3,c4,by rw [c5,e3,HN.out];rfl⟩
  ·rintro e w1 ⟨rfl,s2,hst,habs⟩
   go_wp2
   go_ret
   exact ⟨rfl,s2,(Step.of_upd HS.out hu).trans hst,habs⟩
 ·have hc:syncA s n=(lookRes s.down (nameOk n.data.toList) true (s.fileAt n).isSome,s.abs):=by unfold syncA;rw [if_pos h1]
  rw [hc]
  generalize lookRes s.down (nameOk n.data.toList) true (s.fileAt n).isSome=e0 at *
  have hb:(e0 != 0)=true:=by simpa using h1
  clear h1 hc hs cm
  go_enter Tryz.func62,Tryz.ntmps62
  go_wp2_with (go_at_call 89;refine HL.out.mono ?_;rintro e w' ⟨rfl,rfl⟩)
  go_ret
  exact ⟨rfl,s,Step.refl HS.out,rfl⟩
def dropRec (l:List FRec) (n:ByteArray):List FRec:=l.filter (fun x=>decide (x.name≠n))
def dropA (l:List FileA) (n:ByteArray):List FileA:=l.filter (fun x=>decide (x.name≠n))
theorem dropRec_abs (l:List FRec) (n:ByteArray):(dropRec l n).map FRec.abs=dropA (l.map FRec.abs) n:=by
 unfold dropRec dropA
 rw [List.filter_map];rfl
theorem del_entries:∀(l:List FRec) (n:ByteArray),(l.map (·.name)).Nodup→del (l.map FRec.entry) n=(dropRec l n).map FRec.entry
 | [],_,_=>rfl
 | r :: l,n,h=>by
  simp only [List.map_cons,List.nodup_cons,List.mem_map,not_exists,not_and] at h
  by_cases e:r.name=n
  ·have hall:dropRec l n=l:=by
    unfold dropRec
    rw [List.filter_eq_self]
    intro x hx
    simp only [decide_eq_true_eq]
    intro h';exact h.1 x hx (h'.trans e.symm)
   simp only [List.map_cons,del,FRec.entry,if_pos e]
   have:dropRec (r :: l) n=dropRec l n:=by simp [dropRec,e]
   rw [this,hall]
  ·have:dropRec (r :: l) n=r :: dropRec l n:=by simp [dropRec,e]
   rw [this]
   simp only [List.map_cons,del,FRec.entry,if_neg e]
   exact congrArg _ (del_entries l n h.2)
theorem dropRec_none {s:DS} {n:ByteArray} (h:s.fileAt n=none):dropRec s.recs n=s.recs:=by
 unfold dropRec
 rw [List.filter_eq_self]
 intro x hx
 simp only [decide_eq_true_eq]
 exact fileAt_none h x hx
theorem dropRec_split {l:List FRec} {r:FRec} (hnd:(l.map (·.name)).Nodup) (hr:r∈l):∃pre post,l=pre++r :: post∧dropRec l r.name=pre++post:=by
 obtain ⟨pre,post,rfl⟩:=List.append_of_mem hr
 refine ⟨pre,post,rfl,?_⟩
 simp only [List.map_append,List.map_cons,List.nodup_append,List.nodup_cons,List.mem_map,List.mem_cons] at hnd
 obtain ⟨h1,⟨h2,h3⟩,h4⟩:=hnd
 unfold dropRec
 rw [List.filter_append,List.filter_cons,if_neg (by simp)]
 congr 1
 ·rw [List.filter_eq_self]
  intro x hx
  simp only [decide_eq_true_eq]
  intro e
  exact h4 x.name ⟨x,hx,rfl⟩ r.name (.inl rfl) e
 ·rw [List.filter_eq_self]
  intro x hx
  simp only [decide_eq_true_eq]
  intro e
  exact h2 ⟨x,hx,e⟩
theorem DS.In.removed {w w':World} {s:DS} (h:s.In w) {r:FRec} (hr:r∈s.recs) (hu:Upd (fun k=>k=s.p∨k=s.m) w w') (hm:MapIs w' s.m (del s.entries r.name))
  (htop:w'.heap[s.p]? = some (.cells ({ s with recs:=dropRec s.recs r.name } : DS).cells 122 (0,0))):Step w w' s { s with recs:=dropRec s.recs r.name }:=by
 obtain ⟨pre,post,h1,h2⟩:=dropRec_split h.names hr
 have hsubl:(dropRec s.recs r.name).Sublist s.recs:=List.filter_sublist
 have hbsub:(recBlocks (dropRec s.recs r.name)).Sublist (recBlocks s.recs):=by
  rw [h2,h1]
  simp only [recBlocks,List.flatMap_append,List.flatMap_cons]
  exact List.Sublist.append_left (List.sublist_append_right _ _) _
 have hbl:({ s with recs:=dropRec s.recs r.name } : DS).blocks.Sublist s.blocks:=(hbsub.cons_cons _).cons_cons _
 refine ⟨⟨htop,?_,?_,?_,?_,?_,?_,h.cap,h.armed,trivial⟩,rfl,hu.mono ?_,?_⟩
 ·have e:({ s with recs:=dropRec s.recs r.name } : DS).entries=del s.entries r.name:=by
   show (dropRec s.recs r.name).map FRec.entry=del (s.recs.map FRec.entry) r.name
   rw [del_entries _ _ h.names]
  rw [e];exact hm
 ·intro x hx
  have hxs:x∈s.recs:=hsubl.subset hx
  exact (h.files x hxs).of_blocks (fun k hk=>hu.block k (h.lt k (by simp only [DS.blocks,List.mem_cons];exact .inr (.inr (mem_recBlocks.2 ⟨x,hxs,hk⟩))))
   (fun e=>e.elim (h.p_ne_blk hxs hk) (h.m_ne_blk hxs hk)))
 ·exact (hsubl.map _).nodup h.names
 ·exact hbl.nodup h.blocks
 ·exact Nat.le_trans hsubl.length_le h.count
 ·have h3:=h.room
  unfold DS.used at h3
  show usedOf (dropRec s.recs r.name)≤s.cap
  rw [h2];rw [h1] at h3
  simp only [usedOf,List.map_append,List.map_cons,List.sum_append,List.sum_cons] at h3⊢
  omega
 ·intro k _ e
  simp only [DS.blocks,List.mem_cons]
  rcases e with rfl|rfl
  ·exact .inl rfl
  ·exact .inr (.inl rfl)
 ·intro k hk
  exact .inl (hbl.subset hk)
theorem usedOf_drop {l:List FRec} {r:FRec} (hnd:(l.map (·.name)).Nodup) (hr:r∈l):usedOf (dropRec l r.name)+r.data.length=usedOf l:=by
 obtain ⟨pre,post,h1,h2⟩:=dropRec_split hnd hr
 rw [h2,h1]
 simp [usedOf];omega
theorem drop_any {w:World} {s:DS} (hs:s.In w) (n:ByteArray) :
  Calls Tryz.prog 96 #[.pointer (some ⟨s.p,0,none⟩),.string n] w fun e w'=>e=.returned (.tuple #[])∧Step w w' s { s with recs:=dropRec s.recs n }:=by
 have cm:=hs.c_map
 have c1:=hs.c_used
 have f1:=hs.free 1
 have hlk:=run_lookup_file hs n
 unfold DS.ptrAt at hlk
 have HS:=hid hs
 cases hf:s.fileAt n with
 | none=>
  rw [hf] at hlk
  simp only [] at hlk
  have hd:({ s with recs:=dropRec s.recs n } : DS)=s:=by rw [dropRec_none hf]
  rw [hd]
  clear hd hf hs
  go_enter Tryz.func96,Tryz.ntmps96
  go_wp2
  go_end0
  exact ⟨rfl,Step.refl HS.out⟩
 | some r=>
  rw [hf] at hlk
  simp only [] at hlk
  obtain ⟨hr,hnm⟩:=fileAt_mem hf
  subst hnm
  have hfi:=hs.files r hr
  have c0:=hfi.c_dv
  obtain ⟨ao,cap,hdv,-,-,-,-⟩:=hfi.data.shape
  rw [hdv] at c0
  have hne:=hs.blk_ne_p hr
  have hused:=usedOf_drop hs.names hr
  have hu1:Upd (fun k=>k=s.p) w (w.setCell ⟨s.p,1,none⟩ (.int .i64 ((s.used:Int)-(r.data.length:Int)))).drew:=(Upd.cell_only _ _ _ _).drew
  have hmap1:=hs.map.upd hu1 (fun e=>hs.pm e.symm)
  obtain ⟨w3,hrun,hm,hu⟩:=run_delete_str (P:=Tryz.prog) Tryz.underlying118 Tryz.underlying9 hmap1 r.name 0 9
  have hst:Step w w3 s { s with recs:=dropRec s.recs r.name }:=by
   refine hs.removed hr ((hu1.mono (fun k _ h=>.inl h)).trans hu (fun k _ h=>.inr h)) hm ?_
   rw [hu.block s.p (by simpa using hs.plt) hs.pm]
   show (w.setCell ⟨s.p,1,none⟩ _).heap[s.p]? = _
   rw [heap_setCell_at _ _ _ _ _ _ hs.top]
   have e:(s.used:Int)-(r.data.length:Int)=((usedOf (dropRec s.recs r.name):Nat):Int):=by unfold DS.used;omega
   rw [e];rfl
  have Ka:=hid hst
  have hle:=le_usedOf hr
  have hle2:(r.data.length:Int)≤(s.used:Int):=by unfold DS.used;omega
  have hle3:(s.used:Int)≤67108864:=by have:=hs.room;have:=hs.cap;omega
  clear hst hu hm hmap1 hu1 hused hdv hfi hf hs hle
  go_enter Tryz.func96,Tryz.ntmps96
  go_wp2
  go_region
  go_wp2
  go_end0
  exact ⟨rfl,Ka.out⟩
theorem delete1_any {w:World} {s:DS} (hs:s.In w) {n:ByteArray} {b1 b2:Nat} (h1:w.cell? ⟨b1,0,none⟩=some (.pointer (some ⟨s.p,0,none⟩))) (h2:w.cell? ⟨b2,0,none⟩=some (.string n)) :
  Calls Tryz.prog 95 #[.pointer (some ⟨b1,0,none⟩),.pointer (some ⟨b2,0,none⟩)] w fun e w'=>e=.returned (.tuple #[])∧Step w w' s { s with recs:=dropRec s.recs n }:=by
 have HS:=hid hs;clear hs
 go_enter Tryz.func95,Tryz.ntmps95
 go_wp2_with (go_at_call 96;refine (drop_any HS.out n).mono ?_;rintro e w1 ⟨rfl,hst⟩;have Ka:=hid hst;clear hst)
 go_end0
 exact ⟨rfl,Ka.out⟩
def deleteA (s:DS) (n:ByteArray):Int×DiskA:=
 if lookRes s.down (nameOk n.data.toList) true (s.fileAt n).isSome≠0 then (lookRes s.down (nameOk n.data.toList) true (s.fileAt n).isSome,s.abs)
 else actA s.abs (some 9) (dropA s.abs.files n)
theorem delete_any {w:World} {s:DS} (hs:s.In w) (n:ByteArray) :
  Calls Tryz.prog 37 #[.pointer (some ⟨s.p,0,none⟩),.string n] w fun e w'=>e=.returned (.int .i64 (deleteA s n).1)∧∃s2,Step w w' s s2∧s2.abs=(deleteA s n).2:=by
 have hu2:Upd (fun _=>False) w ((w.alloc (.cells #[.pointer (some ⟨s.p,0,none⟩)] 28)).alloc (.cells #[.string n] 9)):=((Upd.refl _ _).alloc _).alloc _
 have hin:=hs.upd hu2 (fun _ _ h=>h)
 have hst:=Step.of_upd hs hu2
 have HL:=hid (look_any hin n true)
 have hplt:=hs.plt
 have Ka:=hid hin;have Kb:=hid hst
 clear hu2 hst
 by_cases h1:lookRes s.down (nameOk n.data.toList) true (s.fileAt n).isSome=0
 ·rw [h1] at HL
  have hc:deleteA s n=actA s.abs (some 9) (dropA s.abs.files n):=by unfold deleteA;rw [if_neg (by rw [h1];simp)]
  rw [hc]
  have hen:=fun caps W=>run_enters (P:=Tryz.prog) (G:=95) Tryz.func95 (by kernel_rfl) (by kernel_rfl) caps W
  have HE:=hid hen
  clear h1 hc hs hen hin
  go_enter Tryz.func37,Tryz.ntmps37
  go_wp2_with (go_at_call 89;refine HL.out.mono ?_;rintro e w' ⟨rfl,rfl⟩)
  have q1:((w.alloc (.cells #[.pointer (some ⟨s.p,0,none⟩)] 28)).alloc (.cells #[.string n] 9)).cell? ⟨w.heap.size,0,none⟩=some (.pointer (some ⟨s.p,0,none⟩)):=by simp [go_sem]
  have q2:((w.alloc (.cells #[.pointer (some ⟨s.p,0,none⟩)] 28)).alloc (.cells #[.string n] 9)).cell? ⟨w.heap.size+1,0,none⟩=some (.string n):=by simp [go_sem]
  have q3:w.heap.size+1<((w.alloc (.cells #[.pointer (some ⟨s.p,0,none⟩)] 28)).alloc (.cells #[.string n] 9)).heap.size:=by simp
  generalize (w.alloc (.cells #[.pointer (some ⟨s.p,0,none⟩)] 28)).alloc (.cells #[.string n] 9)=W at *
  go_still_tail 6,(by kernel_rfl)
  change wpList _ _ _ _ _ W.drew
  have hdr:=(Upd.refl (fun _=>False) W).drew
  have hin2:=Ka.out.upd hdr (fun _ _ h=>h)
  have HD:=hid hdr;clear hdr
  go_wp2_with fail
  refine (act_any (co:=some 9) hin2 (HE.out _) (F:=dropA s.abs.files n) ?_ (by simp)).mono ?_
  ·intro W1 s1 hi1 hu1 e1 e2 e3 e4 e5
   have r1:W1.cell? ⟨w.heap.size,0,none⟩=some (.pointer (some ⟨s1.p,0,none⟩)):=by
    rw [World.cell?_of_block (hu1.block w.heap.size (by show w.heap.size<W.heap.size;omega) (by show w.heap.size≠s.p;omega)),e1];exact q1
   have r2:W1.cell? ⟨w.heap.size+1,0,none⟩=some (.string n):=by
    rw [World.cell?_of_block (hu1.block (w.heap.size+1) (by show w.heap.size+1<W.heap.size;omega) (by show w.heap.size+1≠s.p;omega))];exact q2
   refine (delete1_any hi1 r1 r2).mono ?_
   rintro e W' ⟨rfl,hst⟩
   exact ⟨rfl,_,hst,rfl,rfl,rfl,rfl,by rw [dropRec_abs,e3];rfl⟩
  ·rintro e w1 ⟨rfl,s2,hst,habs⟩
   have H1:=hid hst;have H2:=hid habs
   clear hst habs
   go_wp2
   go_ret
   exact ⟨rfl,s2,(Kb.out.trans (Step.of_upd Ka.out HD.out)).trans H1.out,H2.out⟩
 ·have hc:deleteA s n=(lookRes s.down (nameOk n.data.toList) true (s.fileAt n).isSome,s.abs):=by unfold deleteA;rw [if_pos h1]
  rw [hc]
  generalize lookRes s.down (nameOk n.data.toList) true (s.fileAt n).isSome=e0 at *
  have hb:(e0 != 0)=true:=by simpa using h1
  clear h1 hc hs hin
  go_enter Tryz.func37,Tryz.ntmps37
  go_wp2_with (go_at_call 89;refine HL.out.mono ?_;rintro e w' ⟨rfl,rfl⟩)
  go_ret
  exact ⟨rfl,s,Kb.out,rfl⟩
theorem beq_toList (a b:ByteArray):(a.toList==b.toList)=decide (a=b):=by
 rw [ByteArray.toList_eq,ByteArray.toList_eq]
 by_cases h:a=b
 ·subst h;simp
 ·have:¬a.data.toList=b.data.toList:=fun e=>h (WideShapes.bytes_inj e)
  rw [decide_eq_false h];exact beq_eq_false_iff_ne.2 this
theorem nodup_move {A B C:List Nat} (h:(A++(B++C)).Nodup):(A++(C++B)).Nodup:=by
 have hp:(A++(B++C)).Perm (A++(C++B)):=List.Perm.append_left _ List.perm_append_comm
 exact hp.nodup_iff.1 h
theorem DS.In.renamed {w w':World} {s:DS} (h:s.In w) {r:FRec} (hr:r∈s.recs) {t:ByteArray} (hne:r.name≠t) (ht:s.fileAt t=none) (hok:nameOk t.data.toList=true) (hu:Upd (fun k=>k=s.m) w w')
  (hm:MapIs w' s.m (put (del s.entries r.name) t (.pointer (some ⟨r.blk,0,none⟩)))):Step w w' s { s with recs:=dropRec s.recs r.name ++ [{ r with name:=t }] }:=by
 obtain ⟨pre,post,h1,h2⟩:=dropRec_split h.names hr
 have hnt:=fileAt_none ht
 have hbl:({ s with recs:=dropRec s.recs r.name ++ [{ r with name:=t }] } : DS).blocks=(s.p :: s.m :: recBlocks pre)++(recBlocks post++r.blocks):=by
  simp [DS.blocks,h2,recBlocks,FRec.blocks]
 have hb0:s.blocks=(s.p :: s.m :: recBlocks pre)++(r.blocks++recBlocks post):=by
  simp [DS.blocks,h1,recBlocks]
 have hnd:=h.blocks
 rw [hb0] at hnd
 have hdel:del s.entries r.name=(dropRec s.recs r.name).map FRec.entry:=del_entries _ _ h.names
 have hused:usedOf (dropRec s.recs r.name ++ [{ r with name:=t }])=usedOf s.recs:=by
  have:=usedOf_drop h.names hr
  rw [usedOf_append];simp only [usedOf,List.map_cons,List.map_nil,List.sum_cons,List.sum_nil] at this⊢;omega
 refine ⟨⟨?_,?_,?_,?_,?_,?_,?_,h.cap,h.armed,trivial⟩,rfl,hu.mono ?_,?_⟩
 ·have e:({ s with recs:=dropRec s.recs r.name ++ [{ r with name:=t }] } : DS).cells=s.cells:=by simp [DS.cells,DS.used,hused]
  rw [e];exact hu.get h.top h.pm
 ·rw [hdel,put_new] at hm
  ·have e:({ s with recs:=dropRec s.recs r.name ++ [{ r with name:=t }] } : DS).entries=(dropRec s.recs r.name).map FRec.entry ++ [(t,.pointer (some ⟨r.blk,0,none⟩))]:=by simp [DS.entries,FRec.entry]
   rw [e];exact hm
  ·rw [look_entries]
   have:(dropRec s.recs r.name).find? (fun x=>x.name==t)=none:=by
    rw [List.find?_eq_none]
    intro x hx
    have:=hnt x (List.mem_filter.1 hx).1
    rw [beq_bytes];simpa using this
   rw [this];rfl
 ·intro x hx
  have old:∀y∈s.recs,y.In w':=fun y hy=>(h.files y hy).of_blocks (fun k hk=>hu.block k (h.lt k (by simp only [DS.blocks,List.mem_cons];exact .inr (.inr (mem_recBlocks.2 ⟨y,hy,hk⟩)))) (h.m_ne_blk hy hk))
  simp only [List.mem_append,List.mem_singleton] at hx
  rcases hx with hx|rfl
  ·exact old x (List.mem_filter.1 hx).1
  ·have hro:=old r hr
   exact ⟨hro.cells,hro.data,hro.synced,hok⟩
 ·simp only [List.map_append,List.map_cons,List.map_nil,List.nodup_append]
  refine ⟨((List.filter_sublist).map _).nodup h.names,by simp,?_⟩
  intro x hx y hy
  simp only [List.mem_singleton] at hy
  subst hy
  obtain ⟨z,hz,rfl⟩:=List.mem_map.1 hx
  exact hnt z (List.mem_filter.1 hz).1
 ·rw [hbl];exact nodup_move hnd
 ·have:=h.count
  rw [h1] at this
  rw [h2]
  simp at this⊢;omega
 ·have:=h.room
  unfold DS.used at this
  show usedOf _≤s.cap
  rw [hused];exact this
 ·intro k _ e
  subst e;simp [DS.blocks]
 ·intro k hk
  rw [hbl] at hk
  rw [hb0]
  simp only [List.mem_append] at hk⊢
  rcases hk with hk|hk|hk
  ·exact .inl (.inl hk)
  ·exact .inl (.inr (.inr hk))
  ·exact .inl (.inr (.inl hk))
def renameF (l:List FileA) (n t:ByteArray) (f:FileA):List FileA:=if n=t then l else dropA (dropA l t) n ++ [{ f with name:=t }]
theorem fileAt_dropped (s:DS) (t:ByteArray):({ s with recs:=dropRec s.recs t } : DS).fileAt t=none:=by
 unfold DS.fileAt
 rw [List.find?_eq_none]
 intro x hx
 have:=(List.mem_filter.1 hx).2
 rw [beq_bytes]
 simpa using this
theorem rename1_any {w:World} {s:DS} (hs:s.In w) {n t:ByteArray} {r:FRec} (hr:r∈s.recs) (hn:r.name=n) (hok:nameOk t.data.toList=true) {b1 b2 b3 b4:Nat}
  (h1:w.cell? ⟨b1,0,none⟩=some (.string n)) (h2:w.cell? ⟨b2,0,none⟩=some (.string t)) (h3:w.cell? ⟨b3,0,none⟩=some (.pointer (some ⟨s.p,0,none⟩))) (h4:w.cell? ⟨b4,0,none⟩=some (.pointer (some ⟨r.blk,0,none⟩)))
  (hb1:b1∉s.blocks) (hb2:b2∉s.blocks) (hb3:b3∉s.blocks) (hb4:b4∉s.blocks) :
  Calls Tryz.prog 128 #[.pointer (some ⟨b1,0,none⟩),.pointer (some ⟨b2,0,none⟩),.pointer (some ⟨b3,0,none⟩),.pointer (some ⟨b4,0,none⟩)] w fun e w'=>e=.returned (.tuple #[])∧
   ∃s2,Step w w' s s2∧s2.cap=s.cap∧s2.down=s.down∧s2.armed=s.armed∧s2.cnt=s.cnt∧s2.recs.map FRec.abs=renameF (s.recs.map FRec.abs) n t r.abs:=by
 subst hn
 have HS:=hid hs
 by_cases hnt:r.name=t
 ·have hq:(r.name.toList==t.toList)=true:=by rw [beq_toList];simp [hnt]
  have hF:renameF (s.recs.map FRec.abs) r.name t r.abs=s.recs.map FRec.abs:=by unfold renameF;rw [if_pos hnt]
  rw [hF]
  clear hs hF
  subst hnt
  go_enter Tryz.func128,Tryz.ntmps128
  go_wp2
  go_end0
  exact ⟨rfl,s,Step.refl HS.out,rfl,rfl,rfl,rfl,rfl⟩
 ·have hq:(r.name.toList==t.toList)=false:=by rw [beq_toList];simp [hnt]
  have HN:=hid hnt
  have Ka:=hid hb1;have Kb:=hid hb2;have Kc:=hid hb3;have Kd:=hid hb4
  have l1:=World.block_lt_of_cell? w _ h1
  have l2:=World.block_lt_of_cell? w _ h2
  have l3:=World.block_lt_of_cell? w _ h3
  have l4:=World.block_lt_of_cell? w _ h4
  have HR:=hid hr
  clear hs hnt hb1 hb2 hb3 hb4 hr
  go_enter Tryz.func128,Tryz.ntmps128
  go_wp2_with fail
  refine (drop_any HS.out t).mono ?_
  rintro e w1 ⟨rfl,hst⟩
  have g1:=(hst.other (i:=0) Ka.out l1).trans h1
  have g2:=(hst.other (i:=0) Kb.out l2).trans h2
  have g3:=(hst.other (i:=0) Kc.out l3).trans h3
  have g4:=(hst.other (i:=0) Kd.out l4).trans h4
  have cm:=hst.ins.c_map
  have hr1:r∈dropRec s.recs t:=List.mem_filter.2 ⟨HR.out,by simpa using HN.out⟩
  have k1:∀b,b∉s.blocks→b<w.heap.size→b≠s.m:=fun b hb _ e=>hb (by simp [DS.blocks,e])
  obtain ⟨w2,hrun2,hm2,hu2⟩:=run_delete_str (P:=Tryz.prog) (w:=w1.drew) Tryz.underlying118 Tryz.underlying9 hst.ins.map r.name 0 9
  obtain ⟨w3,hrun3,hm3,hu3⟩:=run_mapUpdate_str (P:=Tryz.prog) (w:=w2.drew) Tryz.underlying118 Tryz.underlying9 hm2 t (.pointer (some ⟨r.blk,0,none⟩))
  have hu23:Upd (fun k=>k=s.m) w1 w3:=((Upd.refl (fun k=>k=s.m) w1).drew.trans hu2 (fun k _ h=>h)).trans (((Upd.refl (fun k=>k=s.m) w2).drew).trans hu3 (fun k _ h=>h)) (fun k _ h=>h)
  have hst3:=hst.ins.renamed hr1 HN.out (fileAt_dropped s t) hok hu23 hm3
  have habs:(dropRec (dropRec s.recs t) r.name ++ [{ r with name:=t }]).map FRec.abs=renameF (s.recs.map FRec.abs) r.name t r.abs:=by
   unfold renameF
   rw [if_neg HN.out,List.map_append,dropRec_abs,dropRec_abs];rfl
  have n1:=k1 b1 Ka.out l1
  have n2:=k1 b2 Kb.out l2
  have n3:=k1 b3 Kc.out l3
  have n4:=k1 b4 Kd.out l4
  have lw1:=hst.upd.size
  have d2:w2.cell? ⟨b2,0,none⟩=some (.string t):=(World.cell?_of_block (hu2.block b2 (by show b2<w1.heap.size;omega) n2)).trans g2
  have d3:w2.cell? ⟨b3,0,none⟩=some (.pointer (some ⟨s.p,0,none⟩)):=(World.cell?_of_block (hu2.block b3 (by show b3<w1.heap.size;omega) n3)).trans g3
  have d4:w2.cell? ⟨b4,0,none⟩=some (.pointer (some ⟨r.blk,0,none⟩)):=(World.cell?_of_block (hu2.block b4 (by show b4<w1.heap.size;omega) n4)).trans g4
  have dm:w2.cell? ⟨s.p,2,none⟩=some (.map (some s.m)):=(World.cell?_of_block (hu2.block s.p hst.ins.plt hst.ins.pm)).trans cm
  have H1:=hid (hst.trans hst3);have H2:=hid habs
  clear hst3 habs hm3 hm2 hu23 hu3 hu2 hst k1 n1 n2 n3 n4
  go_wp2
  go_region
  go_wp2
  go_region
  go_end0
  exact ⟨rfl,_,H1.out,rfl,rfl,rfl,rfl,H2.out⟩
def renameA (s:DS) (n t:ByteArray):Int×DiskA:=
 if lookRes s.down (nameOk n.data.toList) false (s.fileAt n).isSome≠0 then (lookRes s.down (nameOk n.data.toList) false (s.fileAt n).isSome,s.abs)
 else if nameOk t.data.toList=false then (40,s.abs)
 else match s.fileAt n with
  | none=>(42,s.abs)
  | some r=>actA s.abs (some 8) (renameF s.abs.files n t r.abs)
theorem rename_any {w:World} {s:DS} (hs:s.In w) (n t:ByteArray) :
  Calls Tryz.prog 64 #[.pointer (some ⟨s.p,0,none⟩),.string n,.string t] w fun e w'=>e=.returned (.int .i64 (renameA s n t).1)∧∃s2,Step w w' s s2∧s2.abs=(renameA s n t).2:=by
 have hu2:Upd (fun _=>False) w (((w.alloc (.cells #[.pointer (some ⟨s.p,0,none⟩)] 28)).alloc (.cells #[.string n] 9)).alloc (.cells #[.string t] 9)):=(((Upd.refl _ _).alloc _).alloc _).alloc _
 have hin:=hs.upd hu2 (fun _ _ h=>h)
 have hst:=Step.of_upd hs hu2
 have HL:=hid (look_any hin n false)
 have hplt:=hs.plt
 have cm:=hin.c_map
 have Kf:=hid hin;have Kc:=hid hst;have Kd:=hid hs
 clear hu2 hst
 by_cases h1:lookRes s.down (nameOk n.data.toList) false (s.fileAt n).isSome=0
 ·rw [h1] at HL
  cases hok:nameOk t.data.toList with
  | false=>
   have hc:renameA s n t=(40,s.abs):=by unfold renameA;rw [if_neg (by rw [h1];simp),if_pos hok]
   rw [hc]
   clear h1 hc hs hin cm
   go_enter Tryz.func64,Tryz.ntmps64
   go_wp2_with (first|(go_at_call 89;refine HL.out.mono ?_;rintro e w' ⟨rfl,rfl⟩)|(go_at_call 127;refine (named_any _ _).mono ?_;rintro e w' ⟨rfl,rfl⟩))
   go_ret
   exact ⟨rfl,s,Kc.out,rfl⟩
  | true=>
   have Kg:=hid hok
   have q1:((((w.alloc (.cells #[.pointer (some ⟨s.p,0,none⟩)] 28)).alloc (.cells #[.string n] 9)).alloc (.cells #[.string t] 9))).cell? ⟨w.heap.size,0,none⟩=some (.pointer (some ⟨s.p,0,none⟩)):=by simp [go_sem]
   have q2:((((w.alloc (.cells #[.pointer (some ⟨s.p,0,none⟩)] 28)).alloc (.cells #[.string n] 9)).alloc (.cells #[.string t] 9))).cell? ⟨w.heap.size+1,0,none⟩=some (.string n):=by simp [go_sem]
   have q3:((((w.alloc (.cells #[.pointer (some ⟨s.p,0,none⟩)] 28)).alloc (.cells #[.string n] 9)).alloc (.cells #[.string t] 9))).cell? ⟨w.heap.size+1+1,0,none⟩=some (.string t):=by simp [go_sem]
   have q4:((((w.alloc (.cells #[.pointer (some ⟨s.p,0,none⟩)] 28)).alloc (.cells #[.string n] 9)).alloc (.cells #[.string t] 9))).heap.size=w.heap.size+1+1+1:=by simp
   have hlk:=run_lookup_file (w:=((((w.alloc (.cells #[.pointer (some ⟨s.p,0,none⟩)] 28)).alloc (.cells #[.string n] 9)).alloc (.cells #[.string t] 9))).drew) (hin.upd ((Upd.refl (fun _=>False) _).drew) (fun _ _ h=>h)) n
   have hlk':=run_lookup_file (w:=(((((w.alloc (.cells #[.pointer (some ⟨s.p,0,none⟩)] 28)).alloc (.cells #[.string n] 9)).alloc (.cells #[.string t] 9))).alloc (.cells #[.pointer none] 152)).drew) (hin.upd (((Upd.refl (fun _=>False) _).alloc _).drew) (fun _ _ h=>h)) n
   unfold DS.ptrAt at hlk hlk'
   have hp1:s.p<w.heap.size+1:=by omega
   have hp2:s.p<w.heap.size+1+1:=by omega
   have hp3:s.p<w.heap.size+1+1+1:=by omega
   cases hf:s.fileAt n with
   | none=>
    have hc:renameA s n t=(42,s.abs):=by unfold renameA;rw [if_neg (by rw [h1];simp),if_neg (by simp [hok])];simp only [hf]
    rw [hc]
    rw [hf] at hlk hlk'
    simp only [] at hlk hlk'
    clear h1 hc hs hin hf
    go_enter Tryz.func64,Tryz.ntmps64
    go_wp2_with (first|(go_at_call 89;refine HL.out.mono ?_;rintro e w' ⟨rfl,rfl⟩)|(go_at_call 127;refine (named_any _ _).mono ?_;rintro e w' ⟨rfl,rfl⟩))
    have Kh:=hid q4;clear q4
    go_region
    all_goals go_wp2
    all_goals go_ret
    all_goals exact ⟨rfl,s,Kc.out.trans (Step.of_upd Kf.out (((Upd.refl _ _).alloc _).drew)),rfl⟩
   | some r=>
    have hc:renameA s n t=actA s.abs (some 8) (renameF s.abs.files n t r.abs):=by unfold renameA;rw [if_neg (by rw [h1];simp),if_neg (by simp [hok])];simp only [hf]
    rw [hc]
    rw [hf] at hlk hlk'
    simp only [] at hlk hlk'
    obtain ⟨hr,hnm⟩:=fileAt_mem hf
    have hen:=fun caps W=>run_enters (P:=Tryz.prog) (G:=128) Tryz.func128 (by kernel_rfl) (by kernel_rfl) caps W
    have HE:=hid hen;have HR:=hid hr;have HN:=hid hnm
    have hnb:∀k,w.heap.size≤k→k∉s.blocks:=fun k hk hm=>by have:=hs.lt k hm;omega
    have Ka:=hid hnb
    clear h1 hc hs hin hf hen hr hnm hnb
    go_enter Tryz.func64,Tryz.ntmps64
    go_wp2_with (first|(go_at_call 89;refine HL.out.mono ?_;rintro e w' ⟨rfl,rfl⟩)|(go_at_call 127;refine (named_any _ _).mono ?_;rintro e w' ⟨rfl,rfl⟩))
    have Kh:=hid q4;clear q4
    go_region
    all_goals
     go_wp2_with fail
     have hup:Upd (fun _=>False) w (((((w.alloc (.cells #[.pointer (some ⟨s.p,0,none⟩)] 28)).alloc (.cells #[.string n] 9)).alloc (.cells #[.string t] 9)).alloc (.cells #[.pointer (some ⟨r.blk,0,none⟩)] 152)).drew):=((((Upd.refl _ _).alloc _).alloc _).alloc _).alloc _ |>.drew
     have p1:(((((w.alloc (.cells #[.pointer (some ⟨s.p,0,none⟩)] 28)).alloc (.cells #[.string n] 9)).alloc (.cells #[.string t] 9)).alloc (.cells #[.pointer (some ⟨r.blk,0,none⟩)] 152)).drew).cell? ⟨w.heap.size,0,none⟩=some (.pointer (some ⟨s.p,0,none⟩)):=by simp [go_sem]
     have p2:(((((w.alloc (.cells #[.pointer (some ⟨s.p,0,none⟩)] 28)).alloc (.cells #[.string n] 9)).alloc (.cells #[.string t] 9)).alloc (.cells #[.pointer (some ⟨r.blk,0,none⟩)] 152)).drew).cell? ⟨w.heap.size+1,0,none⟩=some (.string n):=by simp [go_sem]
     have p3:(((((w.alloc (.cells #[.pointer (some ⟨s.p,0,none⟩)] 28)).alloc (.cells #[.string n] 9)).alloc (.cells #[.string t] 9)).alloc (.cells #[.pointer (some ⟨r.blk,0,none⟩)] 152)).drew).cell? ⟨w.heap.size+1+1,0,none⟩=some (.string t):=by simp [go_sem]
     have p4:(((((w.alloc (.cells #[.pointer (some ⟨s.p,0,none⟩)] 28)).alloc (.cells #[.string n] 9)).alloc (.cells #[.string t] 9)).alloc (.cells #[.pointer (some ⟨r.blk,0,none⟩)] 152)).drew).cell? ⟨w.heap.size+1+1+1,0,none⟩=some (.pointer (some ⟨r.blk,0,none⟩)):=by simp [go_sem]
     have p5:(((((w.alloc (.cells #[.pointer (some ⟨s.p,0,none⟩)] 28)).alloc (.cells #[.string n] 9)).alloc (.cells #[.string t] 9)).alloc (.cells #[.pointer (some ⟨r.blk,0,none⟩)] 152)).drew).heap.size=w.heap.size+1+1+1+1:=by simp
     have Ke:=hid hup
     clear hup q1 q2 q3 hlk hlk' cm
     generalize (((((w.alloc (.cells #[.pointer (some ⟨s.p,0,none⟩)] 28)).alloc (.cells #[.string n] 9)).alloc (.cells #[.string t] 9)).alloc (.cells #[.pointer (some ⟨r.blk,0,none⟩)] 152)).drew)=W at *
     have hin2:=Kd.out.upd Ke.out (fun _ _ h=>h)
     have Kb:=hid hin2;clear hin2
     go_still_tail 6,(by kernel_rfl)
     change wpList _ _ _ _ _ W.drew
     go_wp2_with fail
     refine (act_any (co:=some 8) (Kb.out.upd ((Upd.refl (fun _=>False) W).drew) (fun _ _ h=>h)) (HE.out _) (F:=renameF s.abs.files n t r.abs) ?_ (by simp)).mono ?_
     ·intro W1 s1 hi1 hu1 e1 e2 e3 e4 e5
      have keep:∀k i,w.heap.size≤k→k<W.heap.size→W1.cell? ⟨k,i,none⟩=W.cell? ⟨k,i,none⟩:=fun k i h1 h2=>World.cell?_of_block (hu1.block k h2 (by show k≠s.p;omega))
      have hb1:s1.blocks=s.blocks:=by simp [DS.blocks,e1,e2,e3]
      refine (rename1_any hi1 (r:=r) (by rw [e3];exact HR.out) HN.out Kg.out ((keep _ 0 (by omega) (by omega)).trans p2) ((keep _ 0 (by omega) (by omega)).trans p3) (((keep _ 0 (by omega) (by omega)).trans p1).trans (by rw [e1])) ((keep _ 0 (by omega) (by omega)).trans p4)
       (by rw [hb1];exact Ka.out _ (by omega)) (by rw [hb1];exact Ka.out _ (by omega)) (by rw [hb1];exact Ka.out _ (by omega)) (by rw [hb1];exact Ka.out _ (by omega))).mono ?_
      rintro e W' ⟨rfl,s2,hst,c1,c2,c3,c4,c5⟩
      exact ⟨rfl,s2,hst,c1,c2,c3,c4,by rw [c5,e3];rfl⟩
     ·rintro e w1 ⟨rfl,s2,hst,habs⟩
      have H1:=hid hst;have H2:=hid habs
      clear hst habs
      go_wp2
      go_ret
      exact ⟨rfl,s2,((Step.of_upd Kd.out Ke.out).trans (Step.of_upd Kb.out ((Upd.refl _ _).drew))).trans H1.out,H2.out⟩
 ·have hc:renameA s n t=(lookRes s.down (nameOk n.data.toList) false (s.fileAt n).isSome,s.abs):=by unfold renameA;rw [if_pos h1]
  rw [hc]
  generalize lookRes s.down (nameOk n.data.toList) false (s.fileAt n).isSome=e0 at *
  have hb:(e0 != 0)=true:=by simpa using h1
  clear h1 hc hs hin cm
  go_enter Tryz.func64,Tryz.ntmps64
  go_wp2_with (go_at_call 89;refine HL.out.mono ?_;rintro e w' ⟨rfl,rfl⟩)
  go_ret
  exact ⟨rfl,s,Kc.out,rfl⟩
def BytesAt (w:World) (v:Value) (bs:List UInt8):Prop:=
 ∃ao cap,v=.slice ao bs.length cap∧(ao=none→bs=[]∧cap=0)∧∀a,ao=some a→∀j u,(bs.map byteV)[j]? = some u→w.cell? (a.add j)=some u
theorem DataIs.bytes {w:World} {v:Value} {bs:List UInt8} (h:DataIs w v bs):BytesAt w v bs:=by
 obtain ⟨ao,cap,hv,-,-,hn,hs⟩:=h.shape
 refine ⟨ao,cap,hv,hn,fun a ha j u hu=>?_⟩
 obtain ⟨h1,h2,-,h4⟩:=hs a ha
 rw [List.getElem?_map] at hu
 by_cases hj:j<bs.length
 ·rw [List.getElem?_eq_getElem hj] at hu
  simp only [Option.map_some,Option.some.injEq] at hu
  rw [←hu,←h4 j hj]
  have ha':a=⟨a.block,0,none⟩:=by cases a;simp only at h1 h2;subst h1 h2;rfl
  rw [ha',show (Addr.add ⟨a.block,0,none⟩ j:Addr)=⟨a.block,j,none⟩ from by simp [Addr.add_lit]]
 ·rw [List.getElem?_eq_none (by omega)] at hu;cases hu
theorem Tryz.infoByte:(Tryz.prog.info? 5).map (fun i=>(i.zero,i.size,i.bytes))=some (some (.int .u8 0),1,1):=by kernel_rfl
theorem nextcap_small {n c:Nat} (h:n≤140737488355328) (hc:c<n):Builtin.nextslicecap n c≤281474976710656:=by
 have:=nextslicecap_le hc
 omega
theorem run_append_data {w:World} {v src:Value} {bs news:List UInt8} (hd:DataIs w v bs) (hs:BytesAt w src news) (hlen:bs.length+news.length≤140737488355328) (ty:TypeId) :
  ∃v' w',(Builtin.append_ #[22,22] ty #[v,src]).run Tryz.prog w=.ok v' w'∧DataIs w' v' (bs++news)∧Upd (fun k=>v.ownBlock=some k) w w'∧∀k,v'.ownBlock=some k→v.ownBlock=some k∨w.heap.size≤k:=by
 obtain ⟨i0,hi,hz0,hz1,hz2⟩:=info_parts Tryz.infoByte
 obtain ⟨ao,scap,rfl,hn0,hc⟩:=hs
 have h1:∀u∈news.map byteV,u.oneCell'=true:=by intro u hu;obtain ⟨b,_,rfl⟩:=List.mem_map.1 hu;rfl
 rcases hd with ⟨rfl,rfl⟩|⟨g,cap,cur,rfl,hg,hnc,hcs,hcm,htake⟩
 ·
  cases ao with
  | none=>
   obtain ⟨rfl,rfl⟩:=hn0 rfl
   have hr:=run_append_owned_none (P:=Tryz.prog) (w:=w) 0 22 ty 5 i0 1 Tryz.underlying22 hi (.slice none 0 0) 0 [] (World.ownsRow_nil _ _ _ _)
   exact ⟨_,w,hr,.inl ⟨rfl,rfl⟩,Upd.refl _ _,by simp [Value.ownBlock]⟩
  | some a=>
   obtain ⟨v',w',hr,hown,hgr,-⟩:=run_append_own (P:=Tryz.prog) w w.heap.size 22 ty 5 i0 (.int .u8 0) 1 1 Tryz.underlying22 hi hz0 hz1 hz2 rfl (by decide) (.slice none 0 0) 0 [] (World.ownsRow_nil _ _ _ _) a news.length scap (news.map byteV) (by simp) (hc a rfl) h1 (by unfold maxLen;omega) (by omega) (Nat.le_refl _)
   refine ⟨v',w',hr,?_,(Upd.refl _ _).grown hgr (fun k hk _=>by simp [Value.ownBlock] at hk),fun k hk=>.inr (hown.lt k hk).1⟩
   rw [List.nil_append] at hown⊢
   rw [Nat.zero_add] at hown
   exact DataIs.of_owns hown
 ·have hlt:=lt_of_heap hg
  by_cases hroom:bs.length+news.length≤cap
  ·cases ao with
   | none=>
    obtain ⟨rfl,rfl⟩:=hn0 rfl
    have hr:(Builtin.append_ #[22,22] ty #[.slice (some ⟨g,0,none⟩) bs.length cap,.slice none ([]:List UInt8).length 0]).run Tryz.prog w=.ok (.slice (some ⟨g,0,none⟩) bs.length cap) w:=by
     have hnc':bs.length≤cap:=hnc
     simp [Builtin.append_,run_underlying Tryz.underlying22,sizeOf,typeInfo,hi,Builtin.lenOf,hnc',run_firstCells_none,storeCells]
    exact ⟨_,w,hr,by rw [List.append_nil];exact .inr ⟨g,cap,cur,rfl,hg,hnc,hcs,hcm,htake⟩,Upd.refl _ _,fun k hk=>.inl hk⟩
   | some a=>
    have hr:=run_append_room (P:=Tryz.prog) w 22 ty 5 i0 Tryz.underlying22 hi g bs.length cap cur hg a news.length scap (news.map byteV) (by simp [hz1]) (hc a rfl) h1 hroom (by simp [hz1];omega)
    refine ⟨_,_,hr,?_,?_,fun k hk=>.inl hk⟩
    ·refine .inr ⟨g,cap,(cur.toList.take (bs.length*i0.size)++news.map byteV++cur.toList.drop (bs.length*i0.size+(news.map byteV).length)).toArray,by rw [List.length_append],?_,by rw [List.length_append];exact hroom,?_,hcm,?_⟩
     ·simp only [World.setRow,Array.getElem?_modify,if_pos,hg,Option.map_some]
     ·simp [hz1];omega
     ·simp only [hz1,Nat.mul_one]
      rw [htake,List.length_append,List.map_append]
      rw [List.take_append_of_le_length (by simp)]
      rw [List.take_of_length_le (by simp)]
    ·refine ⟨rfl,rfl,rfl,by simp,fun k hk hn=>?_⟩
     simp only [World.setRow,Array.getElem?_modify]
     rw [if_neg (fun e=>hn (by simp [Value.ownBlock,e]))]
  ·cases ao with
   | none=>
    obtain ⟨rfl,rfl⟩:=hn0 rfl
    exact absurd hnc (by simpa using hroom)
   | some a=>
    have holds:∀j u,(bs.map byteV)[j]? = some u→w.cell? ((⟨g,0,none⟩:Addr).add j)=some u:=by
     intro j u hu
     rw [show (Addr.add ⟨g,0,none⟩ j:Addr)=⟨g,j,none⟩ from by simp [Addr.add_lit],cell_of_row w g j cur _ _ hg,←Array.getElem?_toList]
     rw [←htake,List.getElem?_take] at hu
     split at hu
     ·exact hu
     ·cases hu
    have hr:=run_append_grow (P:=Tryz.prog) w 22 ty 5 i0 (.int .u8 0) Tryz.underlying22 hi hz0 ⟨g,0,none⟩ bs.length cap (bs.map byteV) (by simp [hz1]) holds a news.length scap (news.map byteV) (by simp [hz1]) (hc a rfl) (by omega) (by omega)
     (by rw [hz2,Nat.mul_one];exact nextcap_small hlen (by omega))
    have hge:=grownCap_ge w (bs.length+news.length) cap 5
    have hle:=grownCap_le_maxLen w (bs.length+news.length) cap 5 (by unfold maxLen;omega)
    refine ⟨_,_,hr,?_,((Upd.refl _ _).drew).alloc _,fun k hk=>.inr (by simp only [Value.ownBlock,Option.some.injEq] at hk;omega)⟩
    refine .inr ⟨w.heap.size,_,_,by rw [List.length_append],heap_alloc_new w.drew _,by rw [List.length_append];exact hge,?_,hle,?_⟩
    ·simp [size_zeroCells,Value.cells];omega
    ·simp only [Array.toList_append,List.append_assoc,List.length_append,List.map_append]
     rw [←List.append_assoc,List.take_append_of_le_length (by simp),List.take_of_length_le (by simp)]
theorem step_append_eq {P:Program} {ops:Array Oper} {o:Oper} {a:Act} {w:World} {K:Act→World→Prop} {Q:Exit→Act→World→Prop} {E:Prop}
  (hg:o.guard=none) (s x:Operand) (t:TypeId) (hop:o.op=Op.call { callee:=Callee.builtin Builtin.append,args:=#[s,x],argTypes:=#[t,t] }) {va vx v:Value} {w':World} (hs:a.eval s=va) (hx:a.eval x=vx)
  (hrun:(Builtin.append_ #[t,t] o.type #[va,vx]).run P w=.ok v w') (hK:K (a.put o.dst v) w') :
  if Region.wanted o (yielded ops a.tmps)=true then Oper.wp P o a w K Q else E:=by
 have hw:Region.wanted o (yielded ops a.tmps)=true:=by simp [Region.wanted,hg]
 rw [if_pos hw]
 unfold Oper.wp
 simp [execOp,hop,resolve,invoke,builtin,hs,hx,hrun,Result.andThen]
 exact hK
theorem append1_any {w:World} {s:DS} (hs:s.In w) {r:FRec} (hr:r∈s.recs) {v:Value} {bs:List UInt8} (hv:BytesAt w v bs) (hroom:s.used+bs.length≤s.cap) {b1 b2 b3:Nat}
  (h1:w.cell? ⟨b1,0,none⟩=some (.pointer (some ⟨r.blk,0,none⟩))) (h2:w.cell? ⟨b2,0,none⟩=some v) (h3:w.cell? ⟨b3,0,none⟩=some (.pointer (some ⟨s.p,0,none⟩)))
  (hb1:b1∉s.blocks) (hb2:b2∉s.blocks) (hb3:b3∉s.blocks) :
  Calls Tryz.prog 92 #[.pointer (some ⟨b1,0,none⟩),.pointer (some ⟨b2,0,none⟩),.pointer (some ⟨b3,0,none⟩)] w fun e w'=>e=.returned (.tuple #[])∧
   ∃s2,Step w w' s s2∧s2.cap=s.cap∧s2.down=s.down∧s2.armed=s.armed∧s2.cnt=s.cnt∧s2.recs.map FRec.abs=updA (s.recs.map FRec.abs) r.name (fun f=>{ f with data:=f.data++bs }):=by
 have hf:=hs.files r hr
 have c0:=hf.c_dv
 have f0:=frozen_of_row w r.blk 0 _ _ hf.cells
 have c1:=hs.c_used
 have hdl:=hs.data_le hr
 have hcap:=hs.cap
 have hdr:DataIs w.drew r.dv r.data:=hf.data
 obtain ⟨v',w',hrun,hdat,hu,hown⟩:=run_append_data (w:=w.drew) (src:=v) (news:=bs) hdr hv (by omega) 22
 have l1:=World.block_lt_of_cell? w _ h1
 have l2:=World.block_lt_of_cell? w _ h2
 have l3:=World.block_lt_of_cell? w _ h3
 have out:∀k,k∉s.blocks→¬r.dv.ownBlock=some k:=fun k hk e=>hk (by simp only [DS.blocks,List.mem_cons];exact .inr (.inr (mem_recBlocks.2 ⟨r,hr,by simp [FRec.blocks,e]⟩)))
 have keep:∀k i,k<w.heap.size→¬r.dv.ownBlock=some k→w'.cell? ⟨k,i,none⟩=w.cell? ⟨k,i,none⟩:=fun k i hk hn=>World.cell?_of_block (hu.block k hk hn)
 have hblk:¬r.dv.ownBlock=some r.blk:=by
  have hb:=hs.blocks
  obtain ⟨pre,post,e1,-⟩:=setRec_split hs.names hr (r':=r) rfl
  rw [DS.blocks,e1] at hb
  intro e
  simp [recBlocks,FRec.blocks,e,List.nodup_append] at hb
 have hblt:r.blk<w.heap.size:=lt_of_heap hf.cells
 have hp:¬r.dv.ownBlock=some s.p:=fun e=>hs.p_ne_blk hr (k:=s.p) (by simp [FRec.blocks,e]) rfl
 have d1:=(keep b1 0 l1 (out b1 hb1)).trans h1
 have d2:=(keep b2 0 l2 (out b2 hb2)).trans h2
 have d3:=(keep b3 0 l3 (out b3 hb3)).trans h3
 have d0:=(keep r.blk 0 hblt hblk).trans c0
 have df0:w'.frozen? ⟨r.blk,0,none⟩=false:=(World.frozen?_of_block (hu.block r.blk hblt hblk)).trans f0
 have du:=(keep s.p 1 hs.plt hp).trans c1
 have dfu:w'.frozen? ⟨s.p,1,none⟩=false:=(World.frozen?_of_block (hu.block s.p hs.plt hp)).trans (hs.free 1)
 obtain ⟨ao,scap,hvs,-,-⟩:=hv
 obtain ⟨ao',cap',hdv,-,-,-,-⟩:=hf.data.shape
 obtain ⟨ao2,cap2,hdv2,-,-,-,-⟩:=hdat.shape
 have n1:b1≠r.blk:=fun e=>hb1 (by simp only [DS.blocks,List.mem_cons];exact .inr (.inr (mem_recBlocks.2 ⟨r,hr,by simp [FRec.blocks,e]⟩)))
 have n2:b2≠r.blk:=fun e=>hb2 (by simp only [DS.blocks,List.mem_cons];exact .inr (.inr (mem_recBlocks.2 ⟨r,hr,by simp [FRec.blocks,e]⟩)))
 have n3:b3≠r.blk:=fun e=>hb3 (by simp only [DS.blocks,List.mem_cons];exact .inr (.inr (mem_recBlocks.2 ⟨r,hr,by simp [FRec.blocks,e]⟩)))
 have n4:s.p≠r.blk:=fun e=>hs.p_ne_blk hr (k:=r.blk) (by simp [FRec.blocks]) e.symm
 have hst:Step w ((w'.setCell ⟨r.blk,0,none⟩ v').setCell ⟨s.p,1,none⟩ (.int .i64 ((s.used:Int)+(bs.length:Int)))).drew s { s with recs:=setRec s.recs { r with dv:=v',data:=r.data++bs } }:=by
  have hused:((usedOf (setRec s.recs { r with dv:=v',data:=r.data++bs }):Nat):Int)=(s.used:Int)+(bs.length:Int):=by
   have:=usedOf_setRec hs.names hr (r':={ r with dv:=v',data:=r.data++bs }) rfl
   unfold DS.used;simp at this;omega
  have hU:Upd (fun k=>k=s.p∨k∈r.blocks) w ((w'.setCell ⟨r.blk,0,none⟩ v').setCell ⟨s.p,1,none⟩ (.int .i64 ((s.used:Int)+(bs.length:Int)))).drew:=by
   refine ((((Upd.refl _ w).drew.trans hu ?_).setCell ?_ _).setCell ?_ _).drew
   ·intro k _ hk;exact .inr (by simp [FRec.blocks,hk])
   ·intro _;exact .inr (by simp [FRec.blocks])
   ·intro _;exact .inl rfl
  have hcells:(w'.setCell ⟨r.blk,0,none⟩ v').heap[r.blk]? = some (.cells #[v',.int .i64 r.synced] 155 (0,0)):=
   heap_setCell_at w' r.blk 0 _ _ _ (hu.get hf.cells hblk)
  refine hs.turned (r:=r) (r':={ r with dv:=v',data:=r.data++bs }) hr rfl rfl rfl rfl rfl rfl hs.armed hU ⟨?_,?_,?_,hf.name⟩ ?_ ?_ hown
  ·show ((w'.setCell ⟨r.blk,0,none⟩ v').setCell ⟨s.p,1,none⟩ _).heap[r.blk]? = _
   rw [heap_setCell_ne _ _ _ _ n4.symm];exact hcells
  ·refine hdat.of_block (fun k hk=>?_)
   have e1:k≠s.p:=fun e=>by
    rcases hown k hk with h|h
    ·exact hp (e ▸ h)
    ·have:=hs.plt;have:w.drew.heap.size=w.heap.size:=rfl;omega
   have e2:k≠r.blk:=fun e=>by
    rcases hown k hk with h|h
    ·exact hblk (e ▸ h)
    ·have:w.drew.heap.size=w.heap.size:=rfl;omega
   show ((w'.setCell ⟨r.blk,0,none⟩ v').setCell ⟨s.p,1,none⟩ _).heap[k]? = _
   rw [heap_setCell_ne _ _ _ _ e1,heap_setCell_ne _ _ _ _ e2]
  ·show r.synced≤(r.data++bs).length
   have:=hf.synced;simp;omega
  ·show ((w'.setCell ⟨r.blk,0,none⟩ v').setCell ⟨s.p,1,none⟩ _).heap[s.p]? = _
   have ht:(w'.setCell ⟨r.blk,0,none⟩ v').heap[s.p]? = some (.cells s.cells 122 (0,0)):=by
    rw [heap_setCell_ne _ _ _ _ n4];exact hu.get hs.top hp
   rw [heap_setCell_at _ _ _ _ _ _ ht,←hused];rfl
  ·show usedOf _≤s.cap
   have e:usedOf (setRec s.recs { r with dv:=v',data:=r.data++bs })=s.used+bs.length:=by omega
   rw [e];exact hroom
 have Ka:=hid hst
 have habs:(setRec s.recs { r with dv:=v',data:=r.data++bs }).map FRec.abs=updA (s.recs.map FRec.abs) r.name (fun f=>{ f with data:=f.data++bs }):=
  setRec_abs (r:=r) (r':={ r with dv:=v',data:=r.data++bs }) hs.names hr rfl rfl
 have HA:=hid habs
 have hu1:(s.used:Int)+(bs.length:Int)≤67108864:=by omega
 rw [hdv] at hrun c0 d0
 rw [hvs] at hrun h2 d2
 rw [List.length_append] at hdv2
 rw [hdv2] at hrun Ka HA
 have huw:=hu.size
 clear hst habs hs hf hdat hu hown keep out hdr hdv hvs hdv2 hb1 hb2 hb3 hp hblk hroom hdl hcap
 go_enter Tryz.func92,Tryz.ntmps92
 go_wp2
 have Kb:=hid hrun;clear hrun
 go_region_law (refine step_append_eq rfl (.tmp 7) (.tmp 8) 22 rfl rfl rfl Kb.out ?_)
 all_goals
  go_wp2
  go_region
  go_end0
  exact ⟨rfl,_,Ka.out,rfl,rfl,rfl,rfl,HA.out⟩
def appendA (s:DS) (n:ByteArray) (bs:List UInt8):Int×DiskA:=
 if lookRes s.down (nameOk n.data.toList) false (s.fileAt n).isSome≠0 then (lookRes s.down (nameOk n.data.toList) false (s.fileAt n).isSome,s.abs)
 else if 67108864<bs.length then (2,s.abs)
 else match s.fileAt n with
  | none=>(42,s.abs)
  | some _=>if s.cap-s.used<bs.length then (4,s.abs) else actA s.abs (some 6) (updA s.abs.files n (fun f=>{ f with data:=f.data++bs }))
theorem append_any {w:World} {s:DS} (hs:s.In w) (n:ByteArray) {v:Value} {bs:List UInt8} (hv:BytesAt w v bs) (hvb:∀a l c,v=.slice (some a) l c→0<l→a.block≠s.p∧a.block<w.heap.size) :
  Calls Tryz.prog 35 #[.pointer (some ⟨s.p,0,none⟩),.string n,v] w fun e w'=>e=.returned (.int .i64 (appendA s n bs).1)∧∃s2,Step w w' s s2∧s2.abs=(appendA s n bs).2:=by
 have hu2:Upd (fun _=>False) w ((w.alloc (.cells #[.pointer (some ⟨s.p,0,none⟩)] 28)).alloc (.cells #[v] 22)):=((Upd.refl _ _).alloc _).alloc _
 have hin:=hs.upd hu2 (fun _ _ h=>h)
 have hst:=Step.of_upd hs hu2
 have HL:=hid (look_any hin n false)
 have hplt:=hs.plt
 have hp1:s.p<w.heap.size+1:=by omega
 have hp2:s.p<w.heap.size+1+1:=by omega
 have cm:=hin.c_map
 have hlk:=run_lookup_file hin n
 unfold DS.ptrAt at hlk
 have Ke:=hid hin;have Ka:=hid hst;have Kf:=hid hs
 obtain ⟨ao,cap,hvv,hv2,hv3⟩:=hv
 subst hvv
 have HV:=hid hv2;have Kh:=hid hv3;have Ki:=hid hvb
 clear hu2 hst hv2 hv3 hvb
 by_cases h1:lookRes s.down (nameOk n.data.toList) false (s.fileAt n).isSome=0
 ·rw [h1] at HL
  by_cases h2:67108864<bs.length
  ·have hc:appendA s n bs=(2,s.abs):=by unfold appendA;rw [if_neg (by rw [h1];simp),if_pos h2]
   rw [hc]
   have h2':(67108864:Int)<(bs.length:Int):=by omega
   clear h1 hc hs hin cm hlk h2
   go_enter Tryz.func35,Tryz.ntmps35
   go_wp2_with (go_at_call 89;refine HL.out.mono ?_;rintro e w' ⟨rfl,rfl⟩)
   go_ret
   exact ⟨rfl,s,Ka.out,rfl⟩
  ·have h2':(bs.length:Int)≤67108864:=by omega
   cases hf:s.fileAt n with
   | none=>
    have hc:appendA s n bs=(42,s.abs):=by unfold appendA;rw [if_neg (by rw [h1];simp),if_neg h2];simp only [hf]
    rw [hc]
    rw [hf] at hlk
    simp only [] at hlk
    clear h1 hc hs hin hf h2
    go_enter Tryz.func35,Tryz.ntmps35
    go_wp2_with (go_at_call 89;refine HL.out.mono ?_;rintro e w' ⟨rfl,rfl⟩)
    go_ret
    exact ⟨rfl,s,Ka.out.trans (Step.of_upd Ke.out ((Upd.refl _ _).alloc _)),rfl⟩
   | some r=>
    rw [hf] at hlk
    simp only [] at hlk
    obtain ⟨hr,hnm⟩:=fileAt_mem hf
    have hin3:=hin.upd ((Upd.refl (fun _=>False) _).alloc (.cells #[.pointer (some ⟨r.blk,0,none⟩)] 152)) (fun _ _ h=>h)
    have hroomle:=hs.room
    have hcaple:=hs.cap
    by_cases h3:s.cap-s.used<bs.length
    ·have hc:appendA s n bs=(4,s.abs):=by unfold appendA;rw [if_neg (by rw [h1];simp),if_neg h2];simp only [hf];rw [if_pos h3]
     rw [hc]
     have h3':(((s.cap-s.used:Nat):Int))<(bs.length:Int):=by omega
     have HF:=hid (fun k=>free_any (hin3.upd ((Upd.refl (fun _=>False) _).drewN k) (fun _ _ h=>h)))
     have Kg:=hid hin3
     clear h1 hc hs hin hf h2 hr hnm hin3 h3 hroomle hcaple
     go_enter Tryz.func35,Tryz.ntmps35
     go_wp2_with (go_at_call 89;refine HL.out.mono ?_;rintro e w' ⟨rfl,rfl⟩)
     go_quiet ((go_at_call 34;exact Calls.quiet_of (HF.out _)))
     go_wp2
     go_ret
     exact ⟨rfl,s,(Ka.out.trans (Step.of_upd Ke.out ((Upd.refl _ _).alloc _))).trans (Step.of_upd Kg.out ((Upd.refl _ _).drewN _)),rfl⟩
    ·have hc:appendA s n bs=actA s.abs (some 6) (updA s.abs.files n (fun f=>{ f with data:=f.data++bs })):=by unfold appendA;rw [if_neg (by rw [h1];simp),if_neg h2];simp only [hf];rw [if_neg h3]
     rw [hc]
     have h3':(bs.length:Int)≤(((s.cap-s.used:Nat):Int)):=by omega
     have hroom:s.used+bs.length≤s.cap:=by omega
     have HF:=hid (fun k=>free_any (hin3.upd ((Upd.refl (fun _=>False) _).drewN k) (fun _ _ h=>h)))
     have hen:=fun caps W=>run_enters (P:=Tryz.prog) (G:=92) Tryz.func92 (by kernel_rfl) (by kernel_rfl) caps W
     have hnb:∀k,w.heap.size≤k→k∉s.blocks:=fun k hk hm=>by have:=hs.lt k hm;omega
     have HE:=hid hen;have HR:=hid hr;have HN:=hid hnm;have Kc:=hid hnb;have Kj:=hid hroom
     clear h1 hc hs hin hf h2 hr hnm hin3 h3 hroomle hcaple hen hnb hroom
     go_enter Tryz.func35,Tryz.ntmps35
     go_wp2_with (go_at_call 89;refine HL.out.mono ?_;rintro e w' ⟨rfl,rfl⟩)
     go_quiet ((go_at_call 34;exact Calls.quiet_of (HF.out _)))
     go_wp2_with fail
     have hup:Upd (fun _=>False) w ((((w.alloc (.cells #[.pointer (some ⟨s.p,0,none⟩)] 28)).alloc (.cells #[.slice ao bs.length cap] 22)).alloc (.cells #[.pointer (some ⟨r.blk,0,none⟩)] 152)).drewN nq):=(((((Upd.refl _ _).alloc _).alloc _).alloc _).drewN _)
     have p1:((((w.alloc (.cells #[.pointer (some ⟨s.p,0,none⟩)] 28)).alloc (.cells #[.slice ao bs.length cap] 22)).alloc (.cells #[.pointer (some ⟨r.blk,0,none⟩)] 152)).drewN nq).cell? ⟨w.heap.size,0,none⟩=some (.pointer (some ⟨s.p,0,none⟩)):=by simp [go_sem]
     have p2:((((w.alloc (.cells #[.pointer (some ⟨s.p,0,none⟩)] 28)).alloc (.cells #[.slice ao bs.length cap] 22)).alloc (.cells #[.pointer (some ⟨r.blk,0,none⟩)] 152)).drewN nq).cell? ⟨w.heap.size+1,0,none⟩=some (.slice ao bs.length cap):=by simp [go_sem]
     have p3:((((w.alloc (.cells #[.pointer (some ⟨s.p,0,none⟩)] 28)).alloc (.cells #[.slice ao bs.length cap] 22)).alloc (.cells #[.pointer (some ⟨r.blk,0,none⟩)] 152)).drewN nq).cell? ⟨w.heap.size+1+1,0,none⟩=some (.pointer (some ⟨r.blk,0,none⟩)):=by simp [go_sem]
     have p4:((((w.alloc (.cells #[.pointer (some ⟨s.p,0,none⟩)] 28)).alloc (.cells #[.slice ao bs.length cap] 22)).alloc (.cells #[.pointer (some ⟨r.blk,0,none⟩)] 152)).drewN nq).heap.size=w.heap.size+1+1+1:=by simp [World.drewN]
     have Kd:=hid hup
     clear hup hlk cm h3'
     generalize ((((w.alloc (.cells #[.pointer (some ⟨s.p,0,none⟩)] 28)).alloc (.cells #[.slice ao bs.length cap] 22)).alloc (.cells #[.pointer (some ⟨r.blk,0,none⟩)] 152)).drewN nq)=W at *
     have Kb:=hid (Kf.out.upd Kd.out (fun _ _ h=>h))
     go_still_tail 6,(by kernel_rfl)
     change wpList _ _ _ _ _ W.drew
     go_wp2_with fail
     refine (act_any (co:=some 6) (Kb.out.upd ((Upd.refl (fun _=>False) W).drew) (fun _ _ h=>h)) (HE.out _) (F:=updA s.abs.files n (fun f=>{ f with data:=f.data++bs })) ?_ (by simp)).mono ?_
     ·intro W1 s1 hi1 hu1 e1 e2 e3 e4 e5
      have keep:∀k i,w.heap.size≤k→k<W.heap.size→W1.cell? ⟨k,i,none⟩=W.cell? ⟨k,i,none⟩:=fun k i h1 h2=>World.cell?_of_block (hu1.block k h2 (by show k≠s.p;omega))
      have hb1:s1.blocks=s.blocks:=by simp [DS.blocks,e1,e2,e3]
      have hused:s1.used=s.used:=by simp [DS.used,e3]
      have hby:BytesAt W1 (.slice ao bs.length cap) bs:=by
       refine ⟨ao,cap,rfl,HV.out,fun a ha j u hu=>?_⟩
       rw [←Kh.out a ha j u hu]
       have h0l:0<bs.length:=by
        rcases Nat.eq_zero_or_pos bs.length with h|h
        ·rw [List.getElem?_eq_none (by simp;omega)] at hu;cases hu
        ·exact h
       obtain ⟨v1,v2⟩:=Ki.out a _ _ (by rw [ha]) h0l
       have hab:(a.add j).block=a.block:=by unfold Addr.add;split<;>rfl
       rw [World.cell?_of_block (w:=W) (hu1.block _ (by rw [hab];show a.block<W.heap.size;omega) (by rw [hab];exact v1)),World.cell?_of_block (w:=w) (Kd.out.block _ (by rw [hab];exact v2) (fun h=>h))]
      refine (append1_any hi1 (r:=r) (by rw [e3];exact HR.out) hby (by rw [hused,e4];exact Kj.out) ((keep _ 0 (by omega) (by omega)).trans p3) ((keep _ 0 (by omega) (by omega)).trans p2) (((keep _ 0 (by omega) (by omega)).trans p1).trans (by rw [e1]))
       (by rw [hb1];exact Kc.out _ (by omega)) (by rw [hb1];exact Kc.out _ (by omega)) (by rw [hb1];exact Kc.out _ (by omega))).mono ?_
      rintro e W' ⟨rfl,s2,hst,c1,c2,c3,c4,c5⟩
      exact ⟨rfl,s2,hst,c1,c2,c3,c4,by rw [c5,e3,HN.out];rfl⟩
     ·rintro e w1 ⟨rfl,s2,hst,habs⟩
      have H1:=hid hst;have H2:=hid habs
      clear hst habs
      go_wp2
      go_ret
      exact ⟨rfl,s2,((Step.of_upd Kf.out Kd.out).trans (Step.of_upd Kb.out ((Upd.refl _ _).drew))).trans H1.out,H2.out⟩
 ·have hc:appendA s n bs=(lookRes s.down (nameOk n.data.toList) false (s.fileAt n).isSome,s.abs):=by unfold appendA;rw [if_pos h1]
  rw [hc]
  generalize lookRes s.down (nameOk n.data.toList) false (s.fileAt n).isSome=e0 at *
  have hb:(e0 != 0)=true:=by simpa using h1
  clear h1 hc hs hin cm hlk
  go_enter Tryz.func35,Tryz.ntmps35
  go_wp2_with (go_at_call 89;refine HL.out.mono ?_;rintro e w' ⟨rfl,rfl⟩)
  go_ret
  exact ⟨rfl,s,Ka.out,rfl⟩
end Go.Proofs.YtgaidmohdhaonaaGreatDoor
