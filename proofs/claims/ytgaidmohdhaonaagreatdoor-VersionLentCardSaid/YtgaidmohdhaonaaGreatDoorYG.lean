/-
  Package manifest, walked: Encode.
  Package manifest, walked: the reader's num and bytes.
-/
import Derived.Test.YtgaidmohdhaonaaGreatDoorYE
import Derived.Lib.SlBytesConst
import Derived.Deep.RegionHeld3
import Derived.Deep.AppendLies
import Derived.Laws.ResultCell
set_option linter.unusedVariables false
set_option linter.unusedSimpArgs false
set_option linter.unnecessarySimpa false
set_option linter.unusedSectionVars false
set_option maxRecDepth 100000
set_option maxHeartbeats 12800000
namespace Go.Proofs.YtgaidmohdhaonaaGreatDoor
open Go Go.RowKit
theorem grow_lit {w W:World} (hu:Upd (fun _=>False) w W) (ms:List UInt8) (fr:Nat×Nat) {sv:Value} {news:List UInt8} (hs:BAt (W.alloc (.cells (ms.map byteV).toArray 5 fr)) sv news) (h0:0<news.length) (hl:ms.length+news.length≤140737488355328) :
  ∃ao L cap w2,(Builtin.append_ #[22,22] 22 #[.slice (some ⟨W.heap.size,0,none⟩) ms.length ms.length,sv]).run Tryz.prog (W.alloc (.cells (ms.map byteV).toArray 5 fr))=.ok (.slice ao L cap) w2∧NewB w w2 (.slice ao L cap) (ms++news):=by
 obtain ⟨i0,hi,hz0,hz1,hz2⟩:=info_parts Tryz.infoByte
 have hg:=heap_alloc_new W (.cells (ms.map byteV).toArray 5 fr)
 have huw:=hu.alloc (.cells (ms.map byteV).toArray 5 fr)
 generalize (W.alloc (.cells (ms.map byteV).toArray 5 fr))=w1 at hs hg huw⊢
 have h1:∀u∈news.map byteV,u.oneCell'=true:=by intro u hu;obtain ⟨b,_,rfl⟩:=List.mem_map.1 hu;rfl
 obtain ⟨so,scap,rfl,hn0,hc⟩:=hs.bytes
 cases so with
 | none=>have:=(hn0 rfl).1;subst this;simp at h0
 | some a=>
  have holds:∀j u,(ms.map byteV)[j]? = some u→w1.cell? ((⟨W.heap.size,0,none⟩:Addr).add j)=some u:=by
   intro j u hu
   rw [show (Addr.add ⟨W.heap.size,0,none⟩ j:Addr)=⟨W.heap.size,j,none⟩ from by simp [Addr.add_lit],cell_of_row w1 W.heap.size j _ _ _ hg]
   simpa using hu
  have hr:=run_append_grow (P:=Tryz.prog) w1 22 22 5 i0 (.int .u8 0) Tryz.underlying22 hi hz0 ⟨W.heap.size,0,none⟩ ms.length ms.length (ms.map byteV) (by simp [hz1]) holds a news.length scap (news.map byteV) (by simp [hz1]) (hc a rfl) (by omega) (by omega)
   (by rw [hz2,Nat.mul_one];exact nextcap_small hl (by omega))
  have hge:=grownCap_ge w1 (ms.length+news.length) ms.length 5
  have hle:=grownCap_le_maxLen w1 (ms.length+news.length) ms.length 5 (by unfold maxLen;omega)
  refine ⟨_,_,_,_,hr,⟨.inr ⟨w1.heap.size,_,_,by rw [List.length_append],heap_alloc_new w1.drew _,by rw [List.length_append];exact hge,?_,hle,?_⟩,fun k hk=>?_,(huw.drew).alloc _⟩⟩
  ·simp [size_zeroCells,Value.cells];omega
  ·simp only [Array.toList_append,List.append_assoc,List.length_append,List.map_append]
   rw [←List.append_assoc,List.take_append_of_le_length (by simp),List.take_of_length_le (by simp)]
  ·simp only [Value.ownBlock,Option.some.injEq] at hk
   have:=huw.size
   omega
theorem okA_run {x:VerA} (h:okA x=true) {r:MetaA} (hr:r∈x.runs):isKeyB r.first=true∧isKeyB r.last=true:=by
 obtain ⟨k,hk,rfl⟩:=List.getElem_of_mem hr
 unfold okA at h
 rw [Bool.and_eq_true,List.all_eq_true] at h
 have h1:=h.2 k (by simpa using hk)
 rw [runOkA_eq hk] at h1
 simp only [Bool.and_eq_true] at h1
 have h2:=h1.1.1
 unfold fitsA at h2
 simp only [Bool.and_eq_true] at h2
 exact ⟨h2.2.1,h2.2.2.1⟩
theorem okA_head {x:VerA} (h:okA x=true):headA x=true:=by
 unfold okA at h
 rw [Bool.and_eq_true] at h
 exact h.1
theorem bytesB_len (b:List UInt8) (h:b.length≤4611686018427387904):(bytesB b).length≤b.length+10:=by
 unfold bytesB
 have:=uintB_len 9 b.length (by omega)
 rw [List.length_append];omega
theorem metaB_len {r:MetaA} (h1:r.first.length≤1100) (h2:r.last.length≤1100):(metaB r).length≤2280:=by
 unfold metaB
 have a:=uintsB_len [r.num,r.count,r.index,r.low,r.clock,r.bytes]
 have b:=bytesB_len r.first (by omega)
 have c:=bytesB_len r.last (by omega)
 simp only [List.length_append,List.length_cons,List.length_nil] at *
 omega
theorem metas_len:∀(l:List MetaA),(∀r∈l,r.first.length≤1100∧r.last.length≤1100)→((l.map metaB).flatten).length≤2280*l.length
 | [],_=>by simp
 | r :: l,h=>by
  have h1:=metaB_len (h r (by simp)).1 (h r (by simp)).2
  have h2:=metas_len l (fun x hx=>h x (by simp [hx]))
  simp only [List.map_cons,List.flatten_cons,List.length_append,List.length_cons]
  omega
theorem body_len {x:VerA} (h:okA x=true):(bodyB x).length≤300000∧∀r∈x.runs,r.first.length≤1100∧r.last.length≤1100:=by
 have hr:∀r∈x.runs,r.first.length≤1100∧r.last.length≤1100:=fun r hr=>⟨isKeyB_len (okA_run h hr).1,isKeyB_len (okA_run h hr).2⟩
 refine ⟨?_,hr⟩
 obtain ⟨-,h1,h2⟩:=headA_of (okA_head h)
 have a:=metas_len x.runs hr
 have b:=bytesB_len x.state (by omega)
 have c:=uintsB_len [x.gen,x.flushed,x.next,x.low,x.clock]
 have d:=uintsB_len [(x.runs.length:Int)]
 unfold bodyB
 simp only [List.length_append,List.length_cons,List.length_nil] at *
 omega
theorem encode_bad {w:World} {v:Value} {x:VerA} (hv:VerAt w v x) (hl:∀r∈x.runs,r.first.length≤140737488351232∧r.last.length≤140737488351232) (hb:okA x=false) :
  Calls Tryz.prog 17 #[v] w fun e w'=>e=.returned (.tuple #[.slice none 0 0,.int .i64 101])∧Upd (fun _=>False) w w':=by
 have HV:=hid hv
 obtain ⟨s1,d1,s2,d2,rfl,-,-⟩:=hv
 have HU:=hid ((Upd.refl (fun _=>False) w).alloc (.cells #[.int .i64 x.gen,.int .i64 x.flushed,.int .i64 x.next,.int .i64 x.low,.int .i64 x.clock,.slice s1 x.state.length d1,.slice s2 x.runs.length d2] 25))
 have HC:=hid (verCheck_any (HV.out.keep HU.out) hl)
 rw [show checkA x=101 from by unfold checkA;rw [hb];rfl] at HC
 clear hb hl
 go_enter Tryz.func17,Tryz.ntmps17
 go_wp2_with fail
 refine HC.out.mono ?_
 rintro e w2 ⟨rfl,hu2⟩
 have Ka:=hid (HU.out.trans hu2 (fun _ _ e=>e))
 clear hu2
 go_wp2
 go_ret2
 exact ⟨rfl,Ka.out⟩
theorem put_row {W1 W:World} {q:Nat} {v:Value} {bs:List UInt8} (h:PutS W1 W q v bs) (nums:List Int) (n:Nat) (hnn:nums.length=n) (hn:n≤100) (hl:bs.length≤1000000000) (C:Array Value) (hC:C=(nums.map (Value.int .i64)).toArray) (a:Nat) (ha:a=W.heap.size) :
  Calls Tryz.prog 68 #[.slice (some ⟨a,0,none⟩) n n,.pointer (some ⟨q,0,none⟩)] (W.alloc (.cells C 3)) fun e w'=>e=.returned (.tuple #[])∧
   Upd (fun b=>b=q∨v.ownBlock=some b) W w'∧∃va vl vc,PutS W1 w' q (.slice va vl vc) (bs++uintsB nums)∧∀b,(Value.slice va vl vc).ownBlock=some b→v.ownBlock=some b∨W.heap.size≤b:=by
 subst ha
 subst hnn
 have hu:Upd (fun _=>False) W (W.alloc (.cells C 3)):=(Upd.refl _ _).alloc _
 have hrow:=heap_alloc_new W (.cells C 3)
 refine (put_any (h.keep hu) (lt_of_heap hrow) (fun e=>by have:=lt_of_heap h.box;omega) (fun k hk=>by have:=h.lt k hk;omega) (by omega) hl (fun j hj=>?_)).mono ?_
 ·rw [cell_of_row _ _ j _ _ _ hrow,hC]
  simp [List.getElem?_eq_getElem hj]
 ·rintro e w' ⟨rfl,h1,x1,x2,x3,h2,h3⟩
  exact ⟨rfl,(hu.mono (fun _ _ e=>e.elim)).trans h1 (fun k _ e=>e),x1,x2,x3,h2,fun b e=>(h3 b e).elim .inl (fun h=>.inr (Nat.le_trans hu.size h))⟩
theorem encode_any {w:World} {v:Value} {x:VerA} (hT:TabIn w) (hv:VerAt w v x) (hb:okA x=true) :
  Calls Tryz.prog 17 #[v] w fun e w'=>∃v',e=.returned (.tuple #[v',.int .i64 0])∧NewB w w' v' (encodeB x):=by
 have HV:=hid hv;have HT:=hid hT
 have Kh:=hid (body_len hb)
 have Kd:=hid (headA_of (okA_head hb))
 obtain ⟨s1,d1,s2,d2,rfl,-,-⟩:=hv
 have HU:=hid ((Upd.refl (fun _=>False) w).alloc (.cells #[.int .i64 x.gen,.int .i64 x.flushed,.int .i64 x.next,.int .i64 x.low,.int .i64 x.clock,.slice s1 x.state.length d1,.slice s2 x.runs.length d2] 25))
 have HC:=hid (verCheck_any (HV.out.keep HU.out) (fun r hr=>by have:=Kh.out.2 r hr;omega))
 have Kc:=hid (heap_alloc_new w (.cells #[.int .i64 x.gen,.int .i64 x.flushed,.int .i64 x.next,.int .i64 x.low,.int .i64 x.clock,.slice s1 x.state.length d1,.slice s2 x.runs.length d2] 25))
 rw [show checkA x=0 from by unfold checkA;rw [hb];rfl] at HC
 obtain ⟨p,hp⟩:∃p,p=w.heap.size:=⟨_,rfl⟩
 rw [←hp] at Kc
 have HP:=hid hp
 clear hb hp hT
 go_enter Tryz.func17,Tryz.ntmps17
 go_wp2_with fail
 refine HC.out.mono ?_
 rintro e W1 ⟨rfl,hu2⟩
 rw [←HP.out]
 have Kj:=hid (HU.out.trans hu2 (fun _ _ e=>e))
 have Kb:=hid (hu2.get Kc.out (fun e=>e))
 have Ks:=hid (PutS.start W1)
 have hpl:p<W1.heap.size:=lt_of_heap Kb.out
 have hpl1:p<W1.heap.size+1:=by omega
 have v0:=cell_of_row W1 p 0 _ _ _ Kb.out;have v1:=cell_of_row W1 p 1 _ _ _ Kb.out;have v2:=cell_of_row W1 p 2 _ _ _ Kb.out;have v3:=cell_of_row W1 p 3 _ _ _ Kb.out;have v4:=cell_of_row W1 p 4 _ _ _ Kb.out
 clear hu2
 have Zk:=hid (show BAt W1 (.slice s1 x.state.length d1) x.state from by obtain ⟨_,_,_,_,e,h1,-⟩:=HV.out;injection e with e;injection e with e;simp only [List.cons.injEq,and_true] at e;obtain ⟨-,-,-,-,-,e5,-⟩:=e;injection e5 with e51 e52 e53;subst e51;subst e53;exact h1.keep Kj.out)
 have Zl:=hid (show RunsAt W1 (.slice s2 x.runs.length d2) x.runs from by obtain ⟨_,_,_,_,e,-,h1⟩:=HV.out;injection e with e;injection e with e;simp only [List.cons.injEq,and_true] at e;obtain ⟨-,-,-,-,-,-,e6⟩:=e;injection e6 with e51 e52 e53;subst e51;subst e53;exact h1.keep Kj.out)
 have Kn:=hid (bytesB_len x.state (by have:=Kd.out.2.1;omega))
 have Ko:=hid (uintsB_len [x.gen,x.flushed,x.next,x.low,x.clock])
 have Zm:=hid (uintsB_len [(x.runs.length:Int)])
 obtain ⟨q,hq⟩:∃q,q=W1.heap.size:=⟨_,rfl⟩
 rw [←hq] at Ks
 have HQ:=hid hq
 have Kt:=hid (put_row Ks.out [x.gen,x.flushed,x.next,x.low,x.clock] 5 rfl (by omega) (by simp) #[.int .i64 x.gen,.int .i64 x.flushed,.int .i64 x.next,.int .i64 x.low,.int .i64 x.clock] rfl (q+1) (by rw [hq];simp))
 have hmf:∀(fn:Fn) (first cap:Array Value) (w:World),(Instr.makeFunc fn first cap).run Tryz.prog w=.ok (.func fn first cap) w:=fun _ _ _ _=>rfl
 clear hq
 go_wp2_with fail
 rw [←HQ.out]
 refine Kt.out.mono ?_
 rintro e W3 ⟨rfl,hu3,va,vl,vc,hs3,-⟩
 rw [List.nil_append] at hs3
 have Kk:=hid hs3
 have hr3:=hs3.data.upd.get Kb.out (fun e=>e)
 clear hu3 hs3 v0 v1 v2 v3 v4 hpl hpl1 hmf
 go_upto_region 7 with fail
 go_cut [34] (fun _ wx=>∃va vl vc,PutS W1 wx q (.slice va vl vc) (uintsB [x.gen,x.flushed,x.next,x.low,x.clock]++bytesB x.state))
 case first=>
  have Ka:=hid (Kk.out.drew.next (bytes_any (w:=W3.drew) (Zk.out.keep Kk.out.drew.data.upd) (by have:=Kd.out.2.1;omega)) (by have:=Kn.out;have:=Ko.out;have:=Kd.out.2.1;simp at *;omega))
  have hq0:=cell_of_row _ _ 0 _ _ _ Kk.out.box
  have hqw:=lt_of_heap Kk.out.box
  have v5:=cell_of_row W3 p 5 _ _ _ hr3
  have hpw:=lt_of_heap hr3
  clear hr3
  go_wp2_with fail
  go_region_law (first|(go_simp;go_at_call 70;refine Ka.out.mono ?_;rintro e W4 ⟨sa,sl,sc,ao,L,cap,w2,rfl,t1,t2,hr,t3,t4,t5,hF⟩)|(refine step_append_eq rfl (.tmp 30) (.tmp 33) 22 rfl rfl rfl hr ?_))
  all_goals
   have HF:=hid hF.out.1
   clear hr
   go_wp2
   go_meet
   case rel=>exact ⟨_,_,_,HF.out⟩
 case rest=>
  obtain ⟨va4,vl4,vc4,hs4⟩:=hcut
  obtain ⟨W4,rfl⟩:∃W4,W4=wc:=⟨_,rfl⟩
  have Zy:=hid hs4
  have hr4:=hs4.data.upd.get Kb.out (fun e=>e)
  have v6:=cell_of_row W4 p 6 _ _ _ hr4
  have hpw:=lt_of_heap hr4
  obtain ⟨a4,ha4⟩:∃a4,a4=W4.heap.size:=⟨_,rfl⟩
  have Kp:=hid (put_row hs4 [(x.runs.length:Int)] 1 rfl (by omega) (by have:=Kn.out;have:=Ko.out;have:=Kd.out.2.1;rw [List.length_append];simp at *;omega) #[.int .i64 (x.runs.length:Int)] rfl a4 ha4)
  have Zn:=hid ha4
  clear hs4 hr4 ha4
  go_wp2_with fail
  rw [←Zn.out]
  refine Kp.out.mono ?_
  rintro e W5 ⟨rfl,hu5,va5,vl5,vc5,hs5,-⟩
  obtain ⟨PRE,hPRE⟩:∃PRE,PRE=uintsB [x.gen,x.flushed,x.next,x.low,x.clock]++bytesB x.state++uintsB [(x.runs.length:Int)]:=⟨_,rfl⟩
  rw [←hPRE] at hs5
  have Ku:=hid (show PRE.length≤140000 from by rw [hPRE];have:=Kn.out;have:=Ko.out;have:=Zm.out;have:=Kd.out.2.1;simp at *;omega)
  have Zo:=hid hs5;have Kv:=hid hPRE
  have hr5:=hs5.data.upd.get Kb.out (fun e=>e)
  have v6:=cell_of_row W5 p 6 _ _ _ hr5
  have hpw:=lt_of_heap hr5
  clear hu5 hs5 hr5 hPRE
  obtain ⟨n,hn⟩:∃n,n=x.runs.length:=⟨_,rfl⟩
  rw [←hn] at v6⊢
  have Kw:=hid hn
  have hn64:n≤64:=by have:=Kd.out.2.2;omega
  clear hn
  go_wp2
  go_loopw [44] (fun i wr=>∃k:Nat,k≤n∧i=.int .i64 k∧∃va vl vc,PutS W1 wr q (.slice va vl vc) (PRE++((x.runs.take k).map metaB).flatten)) (fun i _=>n-(intOf i).toNat)
  case atStart=>exact ⟨0,Nat.zero_le _,rfl,va5,vl5,vc5,by simpa using Zo.out⟩
  case round=>
   obtain ⟨k,hk,rfl,va,vl,vc,hp⟩:=hrel
   obtain ⟨wo,rfl⟩:∃wo,wo=wr:=⟨_,rfl⟩
   have HP:=hid hp
   have Kx:=hid (metas_len (x.runs.take k) (fun r hr=>Kh.out.2 r (List.mem_of_mem_take hr)))
   have Ky:=hid (show (x.runs.take k).length≤64 from by simp;have:=Kd.out.2.2;omega)
   clear hp v6 hpw
   by_cases hlt:k<n
   ·have hlt':k<x.runs.length:=by have:=Kw.out;omega
    obtain ⟨ao0,cap0,e,hc1,hc2,hcells⟩:=Zl.out
    obtain ⟨b,o,f1,c1,f2,c2,ha,hb,g0,g1,g2,g3,g4,g5,g6,g7,hB1,hB2⟩:=hcells k hlt'
    injection e with e1 e2 e3
    subst e1
    subst e3
    subst ha
    clear e2 hcells
    have Kz:=hid (show ((x.runs.take (k+1)).map metaB).flatten=((x.runs.take k).map metaB).flatten++metaB x.runs[k] from by rw [List.take_succ_eq_append_getElem hlt',List.map_append,List.flatten_append];simp only [List.map_cons,List.map_nil,List.flatten_cons,List.flatten_nil,List.append_nil])
    have Ke:=hid (Kh.out.2 _ (List.getElem_mem hlt'))
    obtain ⟨r,hr⟩:∃r,r=x.runs[k]:=⟨_,rfl⟩
    rw [←hr] at g0 g1 g2 g3 g4 g5 g6 g7 hB1 hB2 Kz Ke
    have Za:=hid (bytesB_len r.first (by have:=Ke.out;omega));have Zp:=hid (bytesB_len r.last (by have:=Ke.out;omega))
    have Zq:=hid (uintsB_len [r.num,r.count,r.index,r.low,r.clock,r.bytes])
    have u0:=HP.out.data.upd.cell hb g0;have u1:=HP.out.data.upd.cell hb g1;have u2:=HP.out.data.upd.cell hb g2;have u3:=HP.out.data.upd.cell hb g3
    have u4:=HP.out.data.upd.cell hb g4;have u5:=HP.out.data.upd.cell hb g5;have u6:=HP.out.data.upd.cell hb g6;have u7:=HP.out.data.upd.cell hb g7
    have hbw:b<wo.heap.size:=Nat.lt_of_lt_of_le hb HP.out.data.upd.size
    have Zr:=hid ((Upd.refl (fun _=>False) wo).alloc (.cells #[.int .i64 r.num,.int .i64 r.count,.int .i64 r.index,.int .i64 r.low,.int .i64 r.clock,.int .i64 r.bytes,.slice f1 r.first.length c1,.slice f2 r.last.length c2] 48))
    have Kc:=hid (heap_alloc_new wo (.cells #[.int .i64 r.num,.int .i64 r.count,.int .i64 r.index,.int .i64 r.low,.int .i64 r.clock,.int .i64 r.bytes,.slice f1 r.first.length c1,.slice f2 r.last.length c2] 48))
    have Zb:=hid hB1;have Zc:=hid hB2
    obtain ⟨b8,hb8⟩:∃b8,b8=wo.heap.size:=⟨_,rfl⟩
    rw [←hb8] at Kc
    have Zd:=hid hb8
    have Ze:=hid (show b8≠q from by have:=lt_of_heap HP.out.box;omega)
    have Zf:=hid (show ∀j,(Value.slice va vl vc).ownBlock=some j→j≠b8 from fun j hj=>by have:=HP.out.lt j hj;omega)
    have Kq:=hid (put_row (HP.out.keep Zr.out) [r.num,r.count,r.index,r.low,r.clock,r.bytes] 6 rfl (by omega) (by have:=Ku.out;have:=Kx.out;have:=Ky.out;rw [List.length_append];omega) #[.int .i64 r.num,.int .i64 r.count,.int .i64 r.index,.int .i64 r.low,.int .i64 r.clock,.int .i64 r.bytes] rfl (b8+1) (by rw [hb8];simp))
    clear hB1 hB2 hr hb8 hc1 hc2
    go_wp2_with fail
    rw [←Zd.out]
    refine Kq.out.mono ?_
    rintro e W6 ⟨rfl,hu6,va6,vl6,vc6,hs6,ho6⟩
    have Zg:=hid hs6
    have Kf:=hid (hu6.get Kc.out (fun e=>e.elim Ze.out (fun e=>Zf.out _ e rfl)))
    have hsz6:b8<W6.heap.size:=lt_of_heap Kf.out
    have Km:=hid (show ∀j,(Value.slice va6 vl6 vc6).ownBlock=some j→j≠b8 from fun j hj=>(ho6 j hj).elim (fun e=>Zf.out j e) (fun e=>by have h1:=Zd.out;simp at e;omega))
    clear hu6 hs6 ho6 g0 g1 g2 g3 g4 g5 g6 g7 u0 u1 u2 u3 u4 u5 u6 u7 hb hbw
    obtain ⟨ACC,hACC⟩:∃ACC,ACC=PRE++((x.runs.take k).map metaB).flatten++uintsB [r.num,r.count,r.index,r.low,r.clock,r.bytes]:=⟨_,rfl⟩
    have Zh:=hid hACC
    have Kg:=hid (show PutS W1 W6 q (.slice va6 vl6 vc6) ACC from hACC ▸ Zg.out)
    have Zi:=hid (show ACC.length≤300000 from by rw [hACC];have:=Ku.out;have:=Kx.out;have:=Ky.out;have:=Zq.out;simp only [List.length_append,List.length_cons,List.length_nil] at *;omega)
    clear hACC Zg
    go_upto_region 13 with fail
    go_cut [67] (fun _ wx=>wx.heap[b8]? = some (.cells #[.int .i64 r.num,.int .i64 r.count,.int .i64 r.index,.int .i64 r.low,.int .i64 r.clock,.int .i64 r.bytes,.slice f1 r.first.length c1,.slice f2 r.last.length c2] 48 (0,0))∧∃va vl vc,PutS W1 wx q (.slice va vl vc) (ACC++bytesB r.first)∧∀j,(Value.slice va vl vc).ownBlock=some j→j≠b8)
    case first=>
     have Ka:=hid (Kg.out.drew.next (bytes_any (w:=W6.drew) (Zb.out.keep Kg.out.drew.data.upd) (by have:=Ke.out;omega)) (by have:=Zi.out;have:=Za.out;have:=Ke.out;omega))
     have hq0:=cell_of_row _ _ 0 _ _ _ Kg.out.box
     have hqw:=lt_of_heap Kg.out.box
     have z6:=cell_of_row W6 b8 6 _ _ _ Kf.out
     go_wp2_with fail
     go_region_law (first|(go_simp;go_at_call 70;refine Ka.out.mono ?_;rintro e W4 ⟨sa,sl,sc,ao,L,cap,w2,rfl,t1,t2,hr,t3,t4,t5,hF⟩)|(refine step_append_eq rfl (.tmp 63) (.tmp 66) 22 rfl rfl rfl hr ?_))
     all_goals
      have HF:=hid hF.out.1
      have Zs:=hid (hF.out.2.1.get (o:=(.cells #[.int .i64 r.num,.int .i64 r.count,.int .i64 r.index,.int .i64 r.low,.int .i64 r.clock,.int .i64 r.bytes,.slice f1 r.first.length c1,.slice f2 r.last.length c2] 48 (0,0))) (show W6.drew.heap[b8]? = _ from Kf.out) (fun e=>e.elim Ze.out (fun e=>Km.out _ e rfl)))
      have Zt:=hid (show ∀j,(Value.slice ao L cap).ownBlock=some j→j≠b8 from fun j hj=>(hF.out.2.2 j hj).elim (fun e=>Km.out j e) (fun e=>by have h1:W6.heap.size≤j:=e;omega))
      clear hr
      go_wp2
      go_meet
      case rel=>exact ⟨Zs.out,_,_,_,HF.out,Zt.out⟩
    case rest=>
     obtain ⟨hrow7,va7,vl7,vc7,hs7,hnv7⟩:=hcut
     obtain ⟨W7,rfl⟩:∃W7,W7=wc:=⟨_,rfl⟩
     have Kl:=hid hs7;have Ki:=hid hrow7;have Zx:=hid hnv7
     clear hs7 hrow7 hnv7 hsz6
     have Zj:=hid (show PRE++((x.runs.take (k+1)).map metaB).flatten=ACC++bytesB r.first++bytesB r.last from by rw [Kz.out,Zh.out];unfold metaB;simp only [List.append_assoc])
     have Ka:=hid (Kl.out.drew.next (bytes_any (w:=W7.drew) (Zc.out.keep Kl.out.drew.data.upd) (by have:=Ke.out;omega)) (by rw [List.length_append];have:=Zi.out;have:=Za.out;have:=Zp.out;have:=Ke.out;omega))
     have hq0:=cell_of_row _ _ 0 _ _ _ Kl.out.box
     have hqw:=lt_of_heap Kl.out.box
     have z7:=cell_of_row W7 b8 7 _ _ _ Ki.out
     have hsz7:b8<W7.heap.size:=lt_of_heap Ki.out
     go_wp2_with fail
     go_region_law (first|(go_simp;go_at_call 70;refine Ka.out.mono ?_;rintro e W4 ⟨sa,sl,sc,ao,L,cap,w2,rfl,t1,t2,hr,t3,t4,t5,hF⟩)|(refine step_append_eq rfl (.tmp 68) (.tmp 71) 22 rfl rfl rfl hr ?_))
     all_goals
      have HF:=hid hF.out.1
      clear hr
      go_wp2
      go_roundw
      case rel=>exact ⟨k+1,by omega,by simp,ao,L,cap,by rw [Zj.out];exact HF.out⟩
      case measure=>simp [intOf];omega
   ·obtain rfl:k=n:=by omega
    have Kr:=hid (show PRE++((x.runs.take k).map metaB).flatten=bodyB x from by rw [Kv.out,Kw.out,List.take_length];unfold bodyB;simp only [List.append_assoc])
    rw [Kr.out] at HP
    have Zu:=hid (frame_any (HT.out.keep (Kj.out.trans HP.out.data.upd (fun _ _ e=>e))) HP.out.data.data.bat (by have:=Kh.out.1;omega))
    have hq0:=cell_of_row _ _ 0 _ _ _ HP.out.box
    have hqw:=lt_of_heap HP.out.box
    go_wp2_with fail
    refine Zu.out.mono ?_
    rintro e W7 ⟨v7,rfl,hn7⟩
    have hu7:Upd (fun _=>False) w W7:=(Kj.out.trans HP.out.data.upd (fun _ _ e=>e)).trans hn7.upd (fun _ _ e=>e)
    have hfl:(frameB (bodyB x)).length≤400000:=by rw [frameB_length];have:=Kh.out.1;omega
    have hf0:0<(frameB (bodyB x)).length:=by rw [frameB_length];omega
    obtain ⟨ao8,L8,cap8,w8,hr8,hn8⟩:=grow_lit hu7 magicB (8,9) ((hn7.data.bat).keep ((Upd.refl (fun _=>False) W7).alloc _)) hf0 (by simp only [magicB,List.length_cons,List.length_nil];omega)
    obtain ⟨x7,y7,hv7,-,-⟩:=hn7.shape
    obtain ⟨L7,hL7⟩:∃L,L=(frameB (bodyB x)).length:=⟨_,rfl⟩
    rw [←hL7] at hv7
    subst hv7
    have hr8':(Builtin.append_ #[22,22] 22 #[.slice (some ⟨W7.heap.size,0,none⟩) 8 8,.slice x7 L7 y7]).run Tryz.prog (W7.alloc (.cells #[.int .u8 83,.int .u8 84,.int .u8 82,.int .u8 65,.int .u8 84,.int .u8 65,.int .u8 45,.int .u8 77] 5 (8,9)))=.ok (.slice ao8 L8 cap8) w8:=hr8
    have Zv:=hid hr8'
    have Zw:=hid (show NewB w w8 (.slice ao8 L8 cap8) (encodeB x) from hn8)
    have kc:=fun (w:World) (C:Array Value) (n c:Nat)=>Lib.run_convert_bytes_const (P:=Tryz.prog) w 22 5 C n c Tryz.underlying22 Tryz.underlying5
    clear hr8 hr8' hn8 hf0 hfl hL7 hn7 hu7 hq0 hqw
    go_wp2_with (at_builtin;refine wpList_append_run rfl _ _ _ rfl rfl rfl Zv.out ?_)
    go_ret2
    exact ⟨_,rfl,Zw.out⟩
def RdAt (W:World) (p:Nat) (bv:Value) (s:RdA):Prop:=W.heap[p]? = some (.cells #[bv,.int .i64 (s.at':Nat),.bool s.bad] 137 (0,0))
theorem RdAt.cells {W:World} {p:Nat} {bv:Value} {s:RdA} (h:RdAt W p bv s):(W.cell? ⟨p,0,none⟩=some bv∧W.cell? ⟨p,1,none⟩=some (.int .i64 (s.at':Nat))∧W.cell? ⟨p,2,none⟩=some (.bool s.bad))∧(W.frozen? ⟨p,1,none⟩=false∧W.frozen? ⟨p,2,none⟩=false)∧p<W.heap.size:=
 ⟨⟨cell_of_row _ _ 0 _ _ _ h,cell_of_row _ _ 1 _ _ _ h,cell_of_row _ _ 2 _ _ _ h⟩,⟨frozen_of_row _ _ _ _ _ h,frozen_of_row _ _ _ _ _ h⟩,lt_of_heap h⟩
theorem RdAt.keep {W W':World} {p:Nat} {bv:Value} {s:RdA} (h:RdAt W p bv s) (hu:Upd (fun _=>False) W W'):RdAt W' p bv s:=hu.get h (fun e=>e)
theorem RdAt.broken {W:World} {p:Nat} {bv:Value} {s:RdA} (h:RdAt W p bv s):RdAt (W.setCell ⟨p,2,none⟩ (.bool true)) p bv ⟨s.at',true⟩:=heap_setCell_at _ _ _ _ _ _ h
theorem RdAt.moved {W:World} {p:Nat} {bv:Value} {s:RdA} (h:RdAt W p bv s) (a:Nat):RdAt (W.setCell ⟨p,1,none⟩ (.int .i64 a)) p bv ⟨a,s.bad⟩:=heap_setCell_at _ _ _ _ _ _ h
theorem rdN_at {b:List UInt8} {s:RdA} (h:s.at'≤b.length):(rdN b s).2.at'≤b.length:=by
 unfold rdN
 split
 ·exact h
 ·rename_i h1
  exact (readU_ok (by omega) h).2.2
theorem rdB_at {b:List UInt8} {m:Nat} {s:RdA} (h:s.at'≤b.length):(rdB b m s).2.at'≤b.length:=by
 unfold rdB
 split
 ·exact h
 ·rename_i h1
  exact (readB_ok h (by omega)).2.1
theorem num_any {w:World} {p c:Nat} {g:Option Addr} {b:List UInt8} {s:RdA} (hp:RdAt w p (.slice g b.length c) s) (hb:BAt w (.slice g b.length c) b) (hs:s.at'≤b.length) (hl:b.length≤140737488351232) :
  Calls Tryz.prog 74 #[.pointer (some ⟨p,0,none⟩)] w fun e w'=>e=.returned (.int .i64 (rdN b s).1)∧RdAt w' p (.slice g b.length c) (rdN b s).2∧Upd (fun k=>k=p) w w':=by
 have Kd:=hid hp
 have Ke:=hid hb
 have Kc:=hid (fun k=>readUint_any (hb.keep ((Upd.refl (fun _=>False) w).drewN k)) hs (by omega))
 have HR:=hid (show rdN b s=if (readU b s.at').2.2≠0∨9223372036854775807<(readU b s.at').1 then ((0:Int),RdA.mk s.at' true) else ((((readU b s.at').1:Nat):Int),RdA.mk (readU b s.at').2.1 s.bad) from rfl)
 obtain ⟨⟨c0,c1,c2⟩,⟨fz1,fz2⟩,hpl⟩:=hp.cells
 obtain ⟨at0,bad0⟩:=s
 simp only at c1 c2 hs Kc HR Kd hpl c0
 obtain ⟨R,hR⟩:∃R,R=readU b at0:=⟨_,rfl⟩
 rw [←hR] at Kc HR
 clear hR hp hb
 obtain ⟨n,a2,e2⟩:=R
 simp only at Kc HR
 obtain ⟨N,hN⟩:∃N,N=b.length:=⟨_,rfl⟩
 rw [←hN] at c0 Kc hs Kd hl⊢
 have hnl:¬(N:Int)<(at0:Int):=by omega
 have hmin:min (at0:Int) (N:Int)=(at0:Int):=by omega
 clear hN
 by_cases h1:e2=0
 ·subst h1
  by_cases h2:9223372036854775807<n
  ·rw [if_pos (.inr h2)] at HR
   have h2':(9223372036854775807:Int)<(n:Int):=by omega
   go_enter Tryz.func74,Tryz.ntmps74
   go_wp2_with fail
   go_quiet ((go_at_call 135;exact Calls.quiet_of_same (Kc.out _)))
   revert nq
   intro q
   have Ka:=hid (show RdAt (w.drewN q) p (.slice g N c) ⟨at0,bad0⟩ from Kd.out)
   obtain ⟨⟨c0',c1',c2'⟩,⟨fz1',fz2'⟩,hpl'⟩:=Ka.out.cells
   have Kb:=hid (((Upd.refl (fun k=>k=p) w).drewN q))
   generalize w.drewN q=wq at Ka Kb c0' c1' c2' fz1' fz2' hpl'⊢
   go_wp2
   go_ret
   rw [HR.out]
   exact ⟨rfl,Ka.out.broken,Kb.out.setCell (p:=⟨p,2,none⟩) (fun _=>rfl) _⟩
  ·rw [if_neg (by omega)] at HR
   have h2':¬(9223372036854775807:Int)<(n:Int):=by omega
   have hnw:IntKind.i64.wrap (n:Int)=(n:Int):=by rw [IntKind.wrap_i64];omega
   go_enter Tryz.func74,Tryz.ntmps74
   go_wp2_with fail
   go_quiet ((go_at_call 135;exact Calls.quiet_of_same (Kc.out _)))
   revert nq
   intro q
   have Ka:=hid (show RdAt (w.drewN q) p (.slice g N c) ⟨at0,bad0⟩ from Kd.out)
   obtain ⟨⟨c0',c1',c2'⟩,⟨fz1',fz2'⟩,hpl'⟩:=Ka.out.cells
   have Kb:=hid (((Upd.refl (fun k=>k=p) w).drewN q))
   generalize w.drewN q=wq at Ka Kb c0' c1' c2' fz1' fz2' hpl'⊢
   go_wp2
   go_ret
   rw [HR.out]
   exact ⟨rfl,Ka.out.moved a2,Kb.out.setCell (p:=⟨p,1,none⟩) (fun _=>rfl) _⟩
 ·rw [if_pos (.inl h1)] at HR
  have h1':(e2 != 0)=true:=by simpa using h1
  clear h1
  go_enter Tryz.func74,Tryz.ntmps74
  go_wp2_with fail
  go_quiet ((go_at_call 135;exact Calls.quiet_of_same (Kc.out _)))
  revert nq
  intro q
  have Ka:=hid (show RdAt (w.drewN q) p (.slice g N c) ⟨at0,bad0⟩ from Kd.out)
  obtain ⟨⟨c0',c1',c2'⟩,⟨fz1',fz2'⟩,hpl'⟩:=Ka.out.cells
  have Kb:=hid (((Upd.refl (fun k=>k=p) w).drewN q))
  generalize w.drewN q=wq at Ka Kb c0' c1' c2' fz1' fz2' hpl'⊢
  go_wp2
  go_ret
  rw [HR.out]
  exact ⟨rfl,Ka.out.broken,Kb.out.setCell (p:=⟨p,2,none⟩) (fun _=>rfl) _⟩
theorem rbytes_any {w:World} {p c:Nat} {g:Option Addr} {b:List UInt8} {s:RdA} {most:Nat} (hp:RdAt w p (.slice g b.length c) s) (hb:BAt w (.slice g b.length c) b) (hs:s.at'≤b.length) (hl:b.length≤140737488351232) (hm:most≤140737488351232) :
  Calls Tryz.prog 75 #[.pointer (some ⟨p,0,none⟩),.int .i64 most] w fun e w'=>∃v',e=.returned v'∧RdAt w' p (.slice g b.length c) (rdB b most s).2∧Upd (fun k=>k=p) w w'∧DataIs w' v' (rdB b most s).1∧∀k,v'.ownBlock=some k→w.heap.size≤k:=by
 have Kd:=hid hp
 have Kg:=hid hb
 have Ka:=hid (readBytes_any (hb.keep (Upd.refl (fun _=>False) w).drew) hs hl hm)
 have HR:=hid (show rdB b most s=if (readB b s.at' most).2.2≠0 then (([]:List UInt8),RdA.mk s.at' true) else ((readB b s.at' most).1,RdA.mk (readB b s.at' most).2.1 s.bad) from rfl)
 obtain ⟨⟨c0,c1,c2⟩,⟨fz1,fz2⟩,hpl⟩:=hp.cells
 obtain ⟨at0,bad0⟩:=s
 simp only at c1 c2 hs Ka HR Kd hpl c0
 obtain ⟨R,hR⟩:∃R,R=readB b at0 most:=⟨_,rfl⟩
 rw [←hR] at Ka HR
 clear hR hp hb
 obtain ⟨n,a2,e2⟩:=R
 simp only at Ka HR
 obtain ⟨N,hN⟩:∃N,N=b.length:=⟨_,rfl⟩
 rw [←hN] at c0 Ka hs Kd hl⊢
 have hnl:¬(N:Int)<(at0:Int):=by omega
 have hmin:min (at0:Int) (N:Int)=(at0:Int):=by omega
 clear hN
 by_cases h1:e2=0
 ·subst h1
  rw [if_neg (by simp)] at HR
  go_enter Tryz.func75,Tryz.ntmps75
  go_wp2_with fail
  have hcur:=hid ((Upd.refl (fun _=>False) w).drew)
  go_region_held3 (fun V=>V.cell? ⟨p,0,none⟩=some (.slice g N c)∧V.cell? ⟨p,1,none⟩=some (.int .i64 (at0:Int)))
   (first
    | (exact ⟨hcur.out.cell hpl c0,hcur.out.cell hpl c1⟩)
    | go_keep)
   (first
    | (go_at_call 136;refine Ka.out.mono ?_;rintro e W1 ⟨v1,rfl,hn⟩;have hcur:=hid ((Upd.refl (fun _=>False) w).drew.trans hn.upd (fun _ _ e=>e)))
    | fail)
  all_goals
   have Kb:=hid ((Upd.refl (fun _=>False) w).drew.trans hn.upd (fun _ _ e=>e))
   have Kc:=hid (Kd.out.keep Kb.out)
   obtain ⟨⟨c0',c1',c2'⟩,⟨fz1',fz2'⟩,hpl'⟩:=Kc.out.cells
   have Ke:=hid (Kb.out.mono (T:=fun k=>k=p) (fun _ _ e=>e.elim))
   have HN:=hid hn
   have Kf:=hid (show ∀k,v1.ownBlock=some k→k≠p from fun k e=>by have h1:w.heap.size≤k:=hn.new k e;omega)
   clear hn hcur
   go_wp2
   go_ret
   rw [HR.out]
   exact ⟨_,rfl,Kc.out.moved a2,Ke.out.setCell (p:=⟨p,1,none⟩) (fun _=>rfl) _,HN.out.data.upd (Upd.cell_only W1 p 1 _) (fun k e=>Kf.out k e),HN.out.new⟩
 ·rw [if_pos h1] at HR
  have h1':(e2 != 0)=true:=by simpa using h1
  clear h1
  go_enter Tryz.func75,Tryz.ntmps75
  go_wp2_with fail
  have hcur:=hid ((Upd.refl (fun _=>False) w).drew)
  go_region_held3 (fun V=>V.cell? ⟨p,0,none⟩=some (.slice g N c)∧V.cell? ⟨p,1,none⟩=some (.int .i64 (at0:Int)))
   (first
    | (exact ⟨hcur.out.cell hpl c0,hcur.out.cell hpl c1⟩)
    | go_keep)
   (first
    | (go_at_call 136;refine Ka.out.mono ?_;rintro e W1 ⟨v1,rfl,hn⟩;have hcur:=hid ((Upd.refl (fun _=>False) w).drew.trans hn.upd (fun _ _ e=>e)))
    | fail)
  all_goals
   have Kb:=hid ((Upd.refl (fun _=>False) w).drew.trans hn.upd (fun _ _ e=>e))
   have Kc:=hid (Kd.out.keep Kb.out)
   obtain ⟨⟨c0',c1',c2'⟩,⟨fz1',fz2'⟩,hpl'⟩:=Kc.out.cells
   have Ke:=hid (Kb.out.mono (T:=fun k=>k=p) (fun _ _ e=>e.elim))
   have HN:=hid hn
   have Kf:=hid (show ∀k,v1.ownBlock=some k→k≠p from fun k e=>by have h1:w.heap.size≤k:=hn.new k e;omega)
   clear hn hcur
   go_wp2
   go_ret
   rw [HR.out]
   exact ⟨_,rfl,Kc.out.broken,Ke.out.setCell (p:=⟨p,2,none⟩) (fun _=>rfl) _,.inl ⟨rfl,rfl⟩,fun k e=>by cases e⟩
theorem flat_get {α β:Type} (f:α→List β) (m:Nat) (hm:∀a,(f a).length=m):∀(l:List α) (k:Nat) (hk:k<l.length) (j:Nat),j<m→(l.flatMap f)[k*m+j]? = (f l[k])[j]?
 | [],k,hk,j,hj=>absurd hk (by simp)
 | a :: l,0,hk,j,hj=>by
  rw [List.flatMap_cons,Nat.zero_mul,Nat.zero_add,List.getElem?_append_left (by rw [hm];exact hj)]
  rfl
 | a :: l,k+1,hk,j,hj=>by
  rw [List.flatMap_cons,List.getElem?_append_right (by rw [hm,Nat.succ_mul];omega),hm,show (k+1)*m+j-m=k*m+j from by rw [Nat.succ_mul];omega]
  rw [flat_get f m hm l k (by simpa using hk) j hj]
  rfl
structure MV where
 m:MetaA
 f:Value
 l:Value
def MV.cells (x:MV):List Value:=[.int .i64 x.m.num,.int .i64 x.m.count,.int .i64 x.m.index,.int .i64 x.m.low,.int .i64 x.m.clock,.int .i64 x.m.bytes,x.f,x.l]
structure RunsOwn (W:World) (base:Nat) (v:Value) (L:List MV):Prop where
 row:W.ownsRow base 48 8 v L.length (L.flatMap MV.cells)
 data:∀x∈L,DataIs W x.f x.m.first∧DataIs W x.l x.m.last
theorem DataIs.keepT {S:Nat→Prop} {w w':World} {v:Value} {bs:List UInt8} (h:DataIs w v bs) (hu:Upd S w w') (hS:∀k,S k→∀cur fr,w.heap[k]?≠some (.cells cur 5 fr)):DataIs w' v bs:=by
 rcases h with ⟨rfl,rfl⟩|⟨g,cap,cur,rfl,hg,h1,h2,h3,h4⟩
 ·exact .inl ⟨rfl,rfl⟩
 ·exact .inr ⟨g,cap,cur,rfl,hu.get hg (fun e=>hS g e _ _ hg),h1,h2,h3,h4⟩
theorem RunsOwn.keepT {S:Nat→Prop} {w w':World} {base:Nat} {v:Value} {L:List MV} (h:RunsOwn w base v L) (hu:Upd S w w') (hS:∀k,S k→∀cur fr,w.heap[k]?≠some (.cells cur 5 fr)∧w.heap[k]?≠some (.cells cur 48 fr)):RunsOwn w' base v L:=by
 refine ⟨?_,fun x hx=>⟨(h.data x hx).1.keepT hu (fun k e cur fr=>(hS k e cur fr).1),(h.data x hx).2.keepT hu (fun k e cur fr=>(hS k e cur fr).1)⟩⟩
 obtain ⟨hl,h⟩:=h.row
 refine ⟨hl,?_⟩
 rcases h with ⟨rfl,h0⟩|⟨g,cap,cur,rfl,hb,hg,h2,h3,h4,h5⟩
 ·exact .inl ⟨rfl,h0⟩
 ·exact .inr ⟨g,cap,cur,rfl,hb,hu.get hg (fun e=>(hS g e _ _).2 hg),h2,h3,h4,h5⟩
theorem RunsOwn.nil (W:World) (base:Nat):RunsOwn W base (.slice none 0 0) []:=⟨World.ownsRow_nil _ _ _ _,by simp⟩
theorem RunsOwn.slice {W:World} {base:Nat} {v:Value} {L:List MV} (h:RunsOwn W base v L):∃ao cap,v=.slice ao L.length cap:=by
 obtain ⟨hl,h⟩:=h.row
 rcases h with ⟨rfl,h0⟩|⟨g,cap,cur,rfl,hb,hg,h2,h3,h4,h5⟩
 ·exact ⟨none,0,by rw [h0]⟩
 ·exact ⟨_,cap,rfl⟩
theorem RunsOwn.at {W:World} {base:Nat} {v:Value} {L:List MV} (h:RunsOwn W base v L):RunsAt W v (L.map MV.m):=by
 obtain ⟨hl,hr⟩:=h.row
 rcases hr with ⟨rfl,h0⟩|⟨g,cap,cur,rfl,hb,hg,h2,h3,h4,h5⟩
 ·have:L=[]:=List.length_eq_zero_iff.1 h0
  subst this
  exact ⟨none,0,rfl,by simp,by simp,fun k hk=>by simp at hk⟩
 ·refine ⟨some ⟨g,0,none⟩,cap,by simp,by simpa using h2,by simpa [maxLen] using h3,fun k hk=>?_⟩
  have hk':k<L.length:=by simpa using hk
  have hd:=h.data L[k] (List.getElem_mem hk')
  have hc:∀j,j<8→W.cell? ⟨g,k*8+j,none⟩=(MV.cells L[k])[j]?:=by
   intro j hj
   have h6:=flat_get MV.cells 8 (fun _=>rfl) L k hk' j hj
   rw [←h5,List.getElem?_take,if_pos (by omega)] at h6
   rw [cell_of_row W g _ cur _ _ hg,←Array.getElem?_toList]
   exact h6
  obtain ⟨a1,c1,e1,-⟩:=hd.1.bat
  obtain ⟨a2,c2,e2,-⟩:=hd.2.bat
  refine ⟨g,0,a1,c1,a2,c2,rfl,lt_of_heap hg,?_,?_,?_,?_,?_,?_,?_,?_,?_,?_⟩
  ·have h0:=hc 0 (by omega)
   rw [Nat.add_zero] at h0
   rw [Nat.zero_add,h0];simp [MV.cells]
  ·rw [Nat.zero_add,hc 1 (by omega)];simp [MV.cells]
  ·rw [Nat.zero_add,hc 2 (by omega)];simp [MV.cells]
  ·rw [Nat.zero_add,hc 3 (by omega)];simp [MV.cells]
  ·rw [Nat.zero_add,hc 4 (by omega)];simp [MV.cells]
  ·rw [Nat.zero_add,hc 5 (by omega)];simp [MV.cells]
  ·rw [Nat.zero_add,hc 6 (by omega)];simpa [MV.cells] using e1
  ·rw [Nat.zero_add,hc 7 (by omega)];simpa [MV.cells] using e2
  ·rw [List.getElem_map];rw [←e1];exact hd.1.bat
  ·rw [List.getElem_map];rw [←e2];exact hd.2.bat
theorem Tryz.infoMeta:(Tryz.prog.info? 48).map (fun i=>(i.zero,i.size,i.bytes))=some (some (.agg #[.int .i64 0,.int .i64 0,.int .i64 0,.int .i64 0,.int .i64 0,.int .i64 0,.slice none 0 0,.slice none 0 0]),8,96):=by kernel_rfl
theorem RunsOwn.push {W W1:World} {base:Nat} {v:Value} {L:List MV} (h:RunsOwn W base v L) (x:MV) (hf:DataIs W x.f x.m.first) (hl:DataIs W x.l x.m.last) (hb:base≤W.heap.size) (hn:L.length≤1000000) (hW:W1=W.alloc (.cells x.cells.toArray 48)) :
  ∃ao cap w2,(Builtin.append_ #[23,23] 23 #[v,.slice (some ⟨W.heap.size,0,none⟩) 1 1]).run Tryz.prog W1=.ok (.slice ao (L.length+1) cap) w2∧RunsOwn w2 base (.slice ao (L.length+1) cap) (L ++ [x])∧Upd (fun k=>v.ownBlock=some k) W w2:=by
 obtain ⟨i0,hi,hz0,hz1,hz2⟩:=info_parts Tryz.infoMeta
 obtain ⟨a1,c1,e1,-⟩:=hf.bat
 obtain ⟨a2,c2,e2,-⟩:=hl.bat
 have hu:Upd (fun _=>False) W W1:=by rw [hW];exact (Upd.refl _ _).alloc _
 have hrow1:=owns_upd h.row hu (fun _ _ e=>e)
 have hblk:W1.heap[W.heap.size]? = some (.cells x.cells.toArray 48 (0,0)):=by rw [hW];exact heap_alloc_new _ _
 obtain ⟨v',w2,hr,hown,hg,-⟩:=run_append_own (P:=Tryz.prog) W1 base 23 23 48 i0 _ 8 96 Tryz.underlying23 hi hz0 hz1 hz2 rfl (by decide) v L.length _ hrow1 ⟨W.heap.size,0,none⟩ 1 1 x.cells rfl
  (World.news_of_block (cs:=x.cells.toArray) hblk) (by intro u hu;simp only [MV.cells,List.mem_cons,List.not_mem_nil,or_false] at hu;rcases hu with rfl|rfl|rfl|rfl|rfl|rfl|rfl|rfl<;>first|rfl|(rw [e1];rfl)|(rw [e2];rfl)) (by unfold maxLen;omega) (by omega) (Nat.le_trans hb hu.size)
 have hup:Upd (fun k=>v.ownBlock=some k) W w2:=(hu.mono (fun _ _ e=>e.elim)).grown hg (fun k hk _=>hk)
 have hT:∀k,v.ownBlock=some k→∀cur fr,W.heap[k]?≠some (.cells cur 5 fr):=by
  intro k hk cur fr hh
  obtain ⟨-,hh2⟩:=h.row
  rcases hh2 with ⟨rfl,-⟩|⟨g,cap,cur',rfl,-,hg',-⟩
  ·cases hk
  ·simp only [Value.ownBlock,Option.some.injEq] at hk
   subst hk
   rw [hg'] at hh
   injection hh with hh
   injection hh with _ hh
   exact absurd hh (by decide)
 have hro:RunsOwn w2 base v' (L ++ [x]):=by
  refine ⟨by simpa using hown,fun y hy=>?_⟩
  rcases List.mem_append.1 hy with hy|hy
  ·exact ⟨(h.data y hy).1.keepT hup hT,(h.data y hy).2.keepT hup hT⟩
  ·rw [List.mem_singleton] at hy
   subst hy
   exact ⟨hf.keepT hup hT,hl.keepT hup hT⟩
 obtain ⟨ao,cap,hv'⟩:=hro.slice
 rw [List.length_append,List.length_singleton] at hv'
 subst hv'
 exact ⟨ao,cap,w2,hr,hro,hup⟩
abbrev verC (a1 a2 a3 a4 a5:Int) (st rs:Value):Array Value:=#[.int .i64 a1,.int .i64 a2,.int .i64 a3,.int .i64 a4,.int .i64 a5,st,rs]
theorem results_ver {fn:Func} {p u:Tmp} (h:fn.results=#[.cell p 25,.tmp u]) (tmps:Array Value) (w:World) (g:Nat) (cs:Array Value) (hsz:cs.size=7)
  (hp:tmps.getD p undef=.pointer (some ⟨g,0,none⟩)) (hg:w.heap[g]? = some (.cells cs 25 (0,0))) :
  (results fn tmps).run Tryz.prog w=.ok (.tuple #[.agg cs,tmps.getD u undef]) w:=by
 rw [results_cell_tmp h,hp]
 have hl:=run_loadVar_row (P:=Tryz.prog) w g 25 25 cs (0,0) _ hg Tryz.underlying25 rfl (by rw [hsz];kernel_rfl)
 simp [asAddr,Result.andThen,hl]
abbrev verOut (W:World) (p:Nat) (a1 a2 a3 a4 a5:Int) (st rs:Value):World:=
 (((((((W.setCell ⟨p,0,none⟩ (.int .i64 a1)).setCell ⟨p,1,none⟩ (.int .i64 a2)).setCell ⟨p,2,none⟩ (.int .i64 a3)).setCell ⟨p,3,none⟩ (.int .i64 a4)).setCell ⟨p,4,none⟩ (.int .i64 a5)).setCell ⟨p,5,none⟩ st).setCell ⟨p,6,none⟩ rs)
theorem verOut_at {W:World} {p:Nat} {b1 b2 b3 b4 b5:Int} {st0 rs0:Value} (h:W.heap[p]? = some (.cells (verC b1 b2 b3 b4 b5 st0 rs0) 25 (0,0))) (a1 a2 a3 a4 a5:Int) (st rs:Value) :
  (verOut W p a1 a2 a3 a4 a5 st rs).heap[p]? = some (.cells (verC a1 a2 a3 a4 a5 st rs) 25 (0,0)):=by
 have h1:=heap_setCell_at W p 0 _ _ (.int .i64 a1) h
 have h2:=heap_setCell_at _ p 1 _ _ (.int .i64 a2) h1
 have h3:=heap_setCell_at _ p 2 _ _ (.int .i64 a3) h2
 have h4:=heap_setCell_at _ p 3 _ _ (.int .i64 a4) h3
 have h5:=heap_setCell_at _ p 4 _ _ (.int .i64 a5) h4
 have h6:=heap_setCell_at _ p 5 _ _ st h5
 have h7:=heap_setCell_at _ p 6 _ _ rs h6
 rw [h7]
 simp [verC]
theorem verOut_upd {S:Nat→Prop} {w W:World} (h:Upd S w W) {p:Nat} (hp:p<w.heap.size→S p) (a1 a2 a3 a4 a5:Int) (st rs:Value):Upd S w (verOut W p a1 a2 a3 a4 a5 st rs):=by
 have hp':∀j:Nat,(⟨p,j,none⟩:Addr).block<w.heap.size→S (⟨p,j,none⟩:Addr).block:=fun j e=>hp e
 exact ((((((h.setCell (hp' 0) _).setCell (hp' 1) _).setCell (hp' 2) _).setCell (hp' 3) _).setCell (hp' 4) _).setCell (hp' 5) _).setCell (hp' 6) _
theorem verCells {W : World} {p : Nat} {x0 x1 x2 x3 x4 x5 x6 : Value} (h : W.heap[p]? = some (.cells #[x0, x1, x2, x3, x4, x5, x6] 25 (0, 0))) :
    (W.cell? ⟨p,0,none⟩=some x0∧W.cell? ⟨p,1,none⟩=some x1∧W.cell? ⟨p,2,none⟩=some x2∧W.cell? ⟨p,3,none⟩=some x3∧W.cell? ⟨p,4,none⟩=some x4∧W.cell? ⟨p,5,none⟩=some x5∧W.cell? ⟨p,6,none⟩=some x6)∧
    (W.frozen? ⟨p,0,none⟩=false∧W.frozen? ⟨p,1,none⟩=false∧W.frozen? ⟨p,2,none⟩=false∧W.frozen? ⟨p,3,none⟩=false∧W.frozen? ⟨p,4,none⟩=false∧W.frozen? ⟨p,5,none⟩=false∧W.frozen? ⟨p,6,none⟩=false)∧p<W.heap.size:=
  ⟨⟨cell_of_row _ _ 0 _ _ _ h,cell_of_row _ _ 1 _ _ _ h,cell_of_row _ _ 2 _ _ _ h,cell_of_row _ _ 3 _ _ _ h,cell_of_row _ _ 4 _ _ _ h,cell_of_row _ _ 5 _ _ _ h,cell_of_row _ _ 6 _ _ _ h⟩,
   ⟨frozen_of_row _ _ _ _ _ h, frozen_of_row _ _ _ _ _ h, frozen_of_row _ _ _ _ _ h, frozen_of_row _ _ _ _ _ h, frozen_of_row _ _ _ _ _ h, frozen_of_row _ _ _ _ _ h, frozen_of_row _ _ _ _ _ h⟩, lt_of_heap h⟩
theorem not_ty {w:World} {p:Nat} {cs:Array Value} {t u:TypeId} {fr:Nat×Nat} (h:w.heap[p]? = some (.cells cs t fr)) (hne:t≠u):∀cur fr',w.heap[p]?≠some (.cells cur u fr'):=by
 intro cur fr' e
 rw [h] at e
 injection e with e
 injection e with _ e
 exact hne e
structure RdS (w W:World) (p2 p7:Nat) (g:Option Addr) (c:Nat) (B:List UInt8) (s:RdA):Prop where
 upd:Upd (fun _=>False) w W
 b2:W.heap[p2]? = some (.cells (verC 0 0 0 0 0 (.slice none 0 0) (.slice none 0 0)) 25 (0,0))
 rd:RdAt W p7 (.slice g B.length c) s
 bb:DataIs W (.slice g B.length c) B
 lt:s.at'≤B.length
 n2:w.heap.size≤p2
 n7:w.heap.size≤p7
 hl:B.length≤1048576
theorem RdS.ty {w W:World} {p2 p7:Nat} {g:Option Addr} {c:Nat} {B:List UInt8} {s:RdA} (h:RdS w W p2 p7 g c B s):∀k,k=p7→∀cur fr,W.heap[k]?≠some (.cells cur 5 fr)∧W.heap[k]?≠some (.cells cur 48 fr):=by
 rintro k rfl cur fr
 exact ⟨not_ty h.rd (by decide) cur fr,not_ty h.rd (by decide) cur fr⟩
theorem RdS.ne {w W:World} {p2 p7:Nat} {g:Option Addr} {c:Nat} {B:List UInt8} {s:RdA} (h:RdS w W p2 p7 g c B s):p2≠p7:=by
 rintro rfl
 exact not_ty h.b2 (by decide) _ _ h.rd
theorem RdS.turn {w W W1:World} {p2 p7:Nat} {g:Option Addr} {c:Nat} {B:List UInt8} {s s':RdA} (h:RdS w W p2 p7 g c B s) (hu:Upd (fun k=>k=p7) W W1) (hr:RdAt W1 p7 (.slice g B.length c) s') (ha:s'.at'≤B.length):RdS w W1 p2 p7 g c B s':=
 ⟨h.upd.trans hu (fun k hk e=>by have:=h.n7;omega),hu.get h.b2 (fun e=>h.ne e),hr,h.bb.keepT hu (fun k e cur fr=>(h.ty k e cur fr).1),ha,h.n2,h.n7,h.hl⟩
theorem RdS.keep {w W W1:World} {p2 p7:Nat} {g:Option Addr} {c:Nat} {B:List UInt8} {s:RdA} (h:RdS w W p2 p7 g c B s) (hu:Upd (fun _=>False) W W1):RdS w W1 p2 p7 g c B s:=
 ⟨h.upd.trans hu (fun _ _ e=>e),hu.get h.b2 (fun e=>e),h.rd.keep hu,h.bb.upd hu (fun _ _ e=>e),h.lt,h.n2,h.n7,h.hl⟩
theorem RdS.num {w W:World} {p2 p7:Nat} {g:Option Addr} {c:Nat} {B:List UInt8} {s s':RdA} {n:Int} (h:RdS w W p2 p7 g c B s) (hr:rdN B s=(n,s')) :
  Calls Tryz.prog 74 #[.pointer (some ⟨p7,0,none⟩)] W fun e W1=>e=.returned (.int .i64 n)∧RdS w W1 p2 p7 g c B s'∧Upd (fun k=>k=p7) W W1:=by
 refine (num_any h.rd h.bb.bat h.lt (by have:=h.hl;omega)).mono ?_
 rintro e W1 ⟨rfl,h1,h2⟩
 have ha:=rdN_at h.lt
 rw [hr] at h1 ha⊢
 exact ⟨rfl,h.turn h2 h1 ha,h2⟩
theorem RdS.bytes {w W:World} {p2 p7:Nat} {g:Option Addr} {c:Nat} {B l:List UInt8} {s s':RdA} {most:Nat} (h:RdS w W p2 p7 g c B s) (hm:most≤140737488351232) (hr:rdB B most s=(l,s')) :
  Calls Tryz.prog 75 #[.pointer (some ⟨p7,0,none⟩),.int .i64 most] W fun e W1=>∃v,e=.returned v∧RdS w W1 p2 p7 g c B s'∧Upd (fun k=>k=p7) W W1∧DataIs W1 v l∧∀k,v.ownBlock=some k→W.heap.size≤k:=by
 refine (rbytes_any h.rd h.bb.bat h.lt (by have:=h.hl;omega) hm).mono ?_
 rintro e W1 ⟨v,rfl,h1,h2,h3,h4⟩
 have ha:=rdB_at (m:=most) h.lt
 rw [hr] at h1 ha h3
 exact ⟨v,rfl,h.turn h2 h1 ha,h2,h3,h4⟩
def keyBlocks (L:List MV):List Nat:=L.flatMap fun y=>y.f.ownBlock.toList++y.l.ownBlock.toList
theorem own_one {v:Value} {n:Nat} (h:∀k,v.ownBlock=some k→n≤k):(v.ownBlock.toList++keyBlocks []).Nodup∧∀k∈v.ownBlock.toList++keyBlocks [],n≤k:=by
 rw [show keyBlocks []=[] from rfl,List.append_nil]
 refine ⟨by cases v.ownBlock<;>simp,fun k hk=>h k (by simpa using hk)⟩
structure DecS (w W:World) (p2 p7 p8:Nat) (g:Option Addr) (c:Nat) (B:List UInt8) (a1 a2 a3 a4 a5:Int) (sv rs:Value) (S:List UInt8) (L:List MV) (s:RdA):Prop where
 r:RdS w W p2 p7 g c B s
 b8:W.heap[p8]? = some (.cells (verC a1 a2 a3 a4 a5 sv rs) 25 (0,0))
 ne:p8≠p2
 n8:w.heap.size≤p8
 st:DataIs W sv S
 runs:RunsOwn W w.heap.size rs L
 ks:∀x∈L,x.m.first.length≤1048576∧x.m.last.length≤1048576
 own:(sv.ownBlock.toList++keyBlocks L).Nodup∧∀k∈sv.ownBlock.toList++keyBlocks L,w.heap.size≤k
theorem DecS.fresh {w W:World} {p2 p7 p8:Nat} {g:Option Addr} {c:Nat} {B S:List UInt8} {a1 a2 a3 a4 a5:Int} {st rs:Value} {L:List MV} {s:RdA} (h:DecS w W p2 p7 p8 g c B a1 a2 a3 a4 a5 st rs S L s) {k:Nat} (hk:W.heap.size≤k):w.heap.size≤k∧k∉st.ownBlock.toList++keyBlocks L:=by
 refine ⟨Nat.le_trans h.r.upd.size hk,fun e=>?_⟩
 have hlt:k<W.heap.size:=by
  rcases List.mem_append.1 e with e|e
  ·exact h.st.lt k (by simpa using e)
  ·obtain ⟨y,hy,e⟩:=List.mem_flatMap.1 e
   rcases List.mem_append.1 e with e|e
   ·exact (h.runs.data y hy).1.lt k (by simpa using e)
   ·exact (h.runs.data y hy).2.lt k (by simpa using e)
 omega
theorem DecS.ne7 {w W:World} {p2 p7 p8:Nat} {g:Option Addr} {c:Nat} {B S:List UInt8} {a1 a2 a3 a4 a5:Int} {st rs:Value} {L:List MV} {s:RdA} (h:DecS w W p2 p7 p8 g c B a1 a2 a3 a4 a5 st rs S L s):p8≠p7:=by
 rintro rfl
 exact not_ty h.b8 (by decide) _ _ h.r.rd
theorem DecS.turn {w W W1:World} {p2 p7 p8:Nat} {g:Option Addr} {c:Nat} {B S:List UInt8} {a1 a2 a3 a4 a5:Int} {st rs:Value} {L:List MV} {s s':RdA} (h:DecS w W p2 p7 p8 g c B a1 a2 a3 a4 a5 st rs S L s) (hu:Upd (fun k=>k=p7) W W1) (hr:RdS w W1 p2 p7 g c B s'):DecS w W1 p2 p7 p8 g c B a1 a2 a3 a4 a5 st rs S L s':=
 ⟨hr,hu.get h.b8 (fun e=>h.ne7 e),h.ne,h.n8,h.st.keepT hu (fun k e cur fr=>(h.r.ty k e cur fr).1),h.runs.keepT hu h.r.ty,h.ks,h.own⟩
theorem DecS.keep {w W W1:World} {p2 p7 p8:Nat} {g:Option Addr} {c:Nat} {B S:List UInt8} {a1 a2 a3 a4 a5:Int} {st rs:Value} {L:List MV} {s:RdA} (h:DecS w W p2 p7 p8 g c B a1 a2 a3 a4 a5 st rs S L s) (hu:Upd (fun _=>False) W W1):DecS w W1 p2 p7 p8 g c B a1 a2 a3 a4 a5 st rs S L s:=
 ⟨h.r.keep hu,hu.get h.b8 (fun e=>e),h.ne,h.n8,h.st.upd hu (fun _ _ e=>e),h.runs.keepT hu (fun _ e=>e.elim),h.ks,h.own⟩
theorem DecS.num {w W:World} {p2 p7 p8:Nat} {g:Option Addr} {c:Nat} {B S:List UInt8} {a1 a2 a3 a4 a5:Int} {st rs:Value} {L:List MV} {s s':RdA} {n:Int} (h:DecS w W p2 p7 p8 g c B a1 a2 a3 a4 a5 st rs S L s) (hr:rdN B s=(n,s')) :
  Calls Tryz.prog 74 #[.pointer (some ⟨p7,0,none⟩)] W fun e W1=>e=.returned (.int .i64 n)∧DecS w W1 p2 p7 p8 g c B a1 a2 a3 a4 a5 st rs S L s'∧Upd (fun k=>k=p7) W W1:=
 (h.r.num hr).mono fun e W1 ⟨h1,h2,h3⟩=>⟨h1,h.turn h3 h2,h3⟩
theorem DecS.bytes {w W:World} {p2 p7 p8:Nat} {g:Option Addr} {c:Nat} {B S l:List UInt8} {a1 a2 a3 a4 a5:Int} {st rs:Value} {L:List MV} {s s':RdA} {most:Nat} (h:DecS w W p2 p7 p8 g c B a1 a2 a3 a4 a5 st rs S L s) (hm:most≤140737488351232) (hr:rdB B most s=(l,s')) :
  Calls Tryz.prog 75 #[.pointer (some ⟨p7,0,none⟩),.int .i64 most] W fun e W1=>∃v,e=.returned v∧DecS w W1 p2 p7 p8 g c B a1 a2 a3 a4 a5 st rs S L s'∧Upd (fun k=>k=p7) W W1∧DataIs W1 v l∧∀k,v.ownBlock=some k→W.heap.size≤k:=
 (h.r.bytes hm hr).mono fun e W1 ⟨v,h1,h2,h3,h4,h5⟩=>⟨v,h1,h.turn h3 h2,h3,h4,h5⟩
theorem DecS.join {w W w2:World} {p2 p7 p8:Nat} {g:Option Addr} {c:Nat} {B S:List UInt8} {a1 a2 a3 a4 a5:Int} {st rs rs':Value} {L:List MV} {s:RdA} {x:MV} (h:DecS w W p2 p7 p8 g c B a1 a2 a3 a4 a5 st rs S L s)
  (hro:RunsOwn w2 w.heap.size rs' (L ++ [x])) (hu:Upd (fun k=>rs.ownBlock=some k) W w2) (hk:x.m.first.length≤1048576∧x.m.last.length≤1048576)
  (hf1:∀k,x.f.ownBlock=some k→w.heap.size≤k∧k∉st.ownBlock.toList++keyBlocks L) (hf2:∀k,x.l.ownBlock=some k→w.heap.size≤k∧k∉st.ownBlock.toList++keyBlocks L) (hf3:∀k,x.f.ownBlock=some k→x.l.ownBlock≠some k) :
  w2.heap[p8]? = some (.cells (verC a1 a2 a3 a4 a5 st rs) 25 (0,0))∧DecS w (w2.setCell ⟨p8,6,none⟩ rs') p2 p7 p8 g c B a1 a2 a3 a4 a5 st rs' S (L ++ [x]) s:=by
 have hty:∀k,rs.ownBlock=some k→∃cur,W.heap[k]? = some (.cells cur 48 (0,0))∧w.heap.size≤k:=by
  intro k hk
  obtain ⟨-,hh2⟩:=h.runs.row
  rcases hh2 with ⟨rfl,-⟩|⟨g,cap,cur',rfl,hb,hg',-⟩
  ·cases hk
  ·simp only [Value.ownBlock,Option.some.injEq] at hk
   subst hk
   exact ⟨_,hg',hb⟩
 have h8:=hu.get h.b8 (fun e=>by obtain ⟨cur,hc,-⟩:=hty _ e;exact not_ty h.b8 (by decide) _ _ hc)
 have hc8:Upd (fun k=>k=p8) w2 (w2.setCell ⟨p8,6,none⟩ rs'):=Upd.cell_only w2 p8 6 rs'
 have hT8:∀k,k=p8→∀cur fr,w2.heap[k]?≠some (.cells cur 5 fr)∧w2.heap[k]?≠some (.cells cur 48 fr):=by
  rintro k rfl cur fr
  exact ⟨not_ty h8 (by decide) cur fr,not_ty h8 (by decide) cur fr⟩
 have hT:∀k,rs.ownBlock=some k→∀cur fr,W.heap[k]?≠some (.cells cur 5 fr):=by
  intro k hk cur fr
  obtain ⟨cur',hc,-⟩:=hty k hk
  exact not_ty hc (by decide) cur fr
 have hupd:Upd (fun _=>False) w (w2.setCell ⟨p8,6,none⟩ rs'):=(h.r.upd.trans hu (fun k hk e=>by obtain ⟨_,_,h9⟩:=hty k e;omega)).trans hc8 (fun k hk e=>by have:=h.n8;omega)
 refine ⟨h8,⟨⟨hupd,?_,?_,?_,h.r.lt,h.r.n2,h.r.n7,h.r.hl⟩,?_,h.ne,h.n8,?_,hro.keepT hc8 hT8,?_,?_⟩⟩
 ·exact hc8.get (hu.get h.r.b2 (fun e=>by obtain ⟨cur,hc,-⟩:=hty _ e;exact not_ty h.r.b2 (by decide) _ _ hc)) (fun e=>h.ne e.symm)
 ·exact hc8.get (hu.get h.r.rd (fun e=>by obtain ⟨cur,hc,-⟩:=hty _ e;exact not_ty h.r.rd (by decide) _ _ hc)) (fun e=>h.ne7 e.symm)
 ·exact (h.r.bb.keepT hu hT).keepT hc8 (fun k e cur fr=>(hT8 k e cur fr).1)
 ·rw [heap_setCell_at _ _ _ _ _ _ h8];simp [verC]
 ·exact (h.st.keepT hu hT).keepT hc8 (fun k e cur fr=>(hT8 k e cur fr).1)
 ·intro y hy
  rcases List.mem_append.1 hy with hy|hy
  ·exact h.ks y hy
  ·rw [List.mem_singleton] at hy;subst hy;exact hk
 ·have e:st.ownBlock.toList++keyBlocks (L ++ [x])=(st.ownBlock.toList++keyBlocks L)++(x.f.ownBlock.toList++x.l.ownBlock.toList):=by simp [keyBlocks]
  rw [e]
  refine ⟨List.nodup_append.2 ⟨h.own.1,?_,?_⟩,?_⟩
  ·refine List.nodup_append.2 ⟨by cases x.f.ownBlock<;>simp,by cases x.l.ownBlock<;>simp,?_⟩
   intro a ha b hb hab
   subst hab
   exact hf3 a (by simpa using ha) (by simpa using hb)
  ·intro a ha b hb hab
   subst hab
   rcases List.mem_append.1 hb with hb|hb
   ·exact (hf1 a (by simpa using hb)).2 ha
   ·exact (hf2 a (by simpa using hb)).2 ha
  ·intro k hk
   rcases List.mem_append.1 hk with hk|hk
   ·exact h.own.2 k hk
   ·rcases List.mem_append.1 hk with hk|hk
    ·exact (hf1 k (by simpa using hk)).1
    ·exact (hf2 k (by simpa using hk)).1
theorem hasPrefix_any {w:World} {v1 v2:Value} {b m:List UInt8} (hb:BAt w v1 b) (hm:BAt w v2 m) (h0:0<m.length) :
  Calls Tryz.prog 72 #[v1,v2] w fun e w'=>e=.returned (.bool (decide (b.take m.length=m)))∧w'=w:=by
 have HB:=hid hb;have HM:=hid hm
 obtain ⟨ao,ca,rfl,h1,h2,-,h4⟩:=hb
 obtain ⟨mo,cm,rfl,k1,k2,-,-⟩:=hm
 by_cases hl:m.length≤b.length
 ·obtain ⟨g,o,rfl⟩:∃g o,ao=some ⟨g,o,none⟩:=by
   obtain ⟨g,o,e,-⟩:=h4 0 (by omega)
   exact ⟨g,o,e⟩
  have hsub:=HB.out.sub (lo:=0) (n:=m.length) (by omega)
  rw [Nat.add_zero,Nat.sub_zero,List.drop_zero] at hsub
  have HE:=hid (equal_any hsub.bytes HM.out.bytes)
  have hli:(m.length:Int)≤(b.length:Int):=by omega
  have hlc:(m.length:Int)≤(ca:Int):=by omega
  have hc0:¬ca=0:=by omega
  clear h4 hsub
  go_enter Tryz.func72,Tryz.ntmps72
  go_wp2_with fail
  refine HE.out.mono ?_
  rintro e w' ⟨rfl,hww⟩
  obtain rfl:=hww.symm
  go_wp2
  go_ret
  exact ⟨rfl,rfl⟩
 ·have hne:decide (b.take m.length=m)=false:=by
   rw [decide_eq_false_iff_not]
   intro e
   have:=congrArg List.length e
   rw [List.length_take] at this
   omega
  rw [hne]
  have hli:¬(m.length:Int)≤(b.length:Int):=by omega
  clear h4 hne
  go_enter Tryz.func72,Tryz.ntmps72
  go_wp2
  go_ret
  exact ⟨rfl,rfl⟩
theorem meta_last {w W:World} {p2 p7 p8:Nat} {g:Option Addr} {c:Nat} {B S:List UInt8} {a1 a2 a3 a4 a5:Int} {st:Value} {ra:Option Addr} {rc LL N:Nat} {L:List MV} {s7 s8:RdA} {n1 n2 n3 n4 n5 n6:Int} {l7 l8:List UInt8} {x7:Option Addr} {l7' y7:Nat}
  (h:DecS w W p2 p7 p8 g c B a1 a2 a3 a4 a5 st (.slice ra LL rc) S L s7) (hLL:LL=L.length) (hL:L.length≤100) (hN:N=B.length) (d7:DataIs W (.slice x7 l7' y7) l7) (hk7:l7.length≤1048576) (hf7:∀k,(Value.slice x7 l7' y7).ownBlock=some k→w.heap.size≤k∧k∉st.ownBlock.toList++keyBlocks L) (h8:rdB B N s7=(l8,s8)) :
  Calls Tryz.prog 75 #[.pointer (some ⟨p7,0,none⟩),.int .i64 (N:Int)] W fun e W8=>∃x8 l8' y8,e=.returned (.slice x8 l8' y8)∧W8.cell? ⟨p8,6,none⟩=some (.slice ra LL rc)∧p8<W8.heap.size∧
  ∃ao L2 cap w9,(Builtin.append_ #[23,23] 23 #[(.slice ra LL rc),.slice (some ⟨W8.heap.size,0,none⟩) 1 1]).run Tryz.prog (W8.alloc (.cells #[.int .i64 n1,.int .i64 n2,.int .i64 n3,.int .i64 n4,.int .i64 n5,.int .i64 n6,.slice x7 l7' y7,.slice x8 l8' y8] 48))=.ok (.slice ao L2 cap) w9∧
   w9.cell? ⟨p8,6,none⟩=some (.slice ra LL rc)∧w9.frozen? ⟨p8,6,none⟩=false∧p8<w9.heap.size∧Hid (L2=LL+1∧∃f l,DecS w (w9.setCell ⟨p8,6,none⟩ (.slice ao L2 cap)) p2 p7 p8 g c B a1 a2 a3 a4 a5 st (.slice ao L2 cap) S (L ++ [⟨⟨n1,n2,n3,n4,n5,n6,l7,l8⟩,f,l⟩]) s8):=by
 subst hLL
 subst hN
 have hB:=h.r.hl
 have hk8:l8.length≤1048576:=by
  have e:l8=(rdB B B.length s7).1:=by rw [h8]
  rw [e];unfold rdB;split
  ·simp
  ·exact Nat.le_trans readB_len hB
 refine (h.bytes (by omega) h8).mono ?_
 rintro e W8 ⟨v8,rfl,g8,hu8,d8,n8⟩
 have hf8:=fun k e=>h.fresh (n8 k e)
 have hf78:∀k,(Value.slice x7 l7' y7).ownBlock=some k→v8.ownBlock≠some k:=fun k e1 e2=>by have h1:=d7.lt k e1;have h2:=n8 k e2;omega
 obtain ⟨x8,y8,e8,-⟩:=d8.bat
 have d7':=d7.keepT hu8 (fun k e cur fr=>(h.r.ty k e cur fr).1)
 subst e8
 refine ⟨x8,l8.length,y8,rfl,(verCells g8.b8).1.2.2.2.2.2.2,lt_of_heap g8.b8,?_⟩
 obtain ⟨ao,cap,w9,hr,hro,hu9⟩:=g8.runs.push ⟨⟨n1,n2,n3,n4,n5,n6,l7,l8⟩,.slice x7 l7' y7,.slice x8 l8.length y8⟩ d7' d8 g8.r.upd.size (by omega) rfl
 obtain ⟨hb9,hd9⟩:=g8.join hro hu9 ⟨hk7,hk8⟩ hf7 hf8 hf78
 exact ⟨ao,_,cap,w9,hr,(verCells hb9).1.2.2.2.2.2.2,(verCells hb9).2.1.2.2.2.2.2.2,lt_of_heap hb9,rfl,_,_,hd9⟩
theorem rdB_len {B:List UInt8} {m:Nat} {s:RdA} (hB:B.length≤1048576):(rdB B m s).1.length≤1048576:=by
 unfold rdB;split
 ·simp
 ·exact Nat.le_trans readB_len hB
def DecRes (w':World) (e:Ending):Option VerA→Prop
 | none=>e=.returned (.tuple #[.agg (verC 0 0 0 0 0 (.slice none 0 0) (.slice none 0 0)),.int .i64 100])
 | some x=>∃v,e=.returned (.tuple #[v,.int .i64 0])∧VerAt w' v x
theorem readFr_len {b:List UInt8} {a:Nat} : (readFr b a).1.length≤1048576:=by
 unfold readFr
 repeat' split
 all_goals first|(simp;done)|(simp only [List.length_take];omega)
theorem verOf {W:World} {base:Nat} {S:List UInt8} {a1 a2 a3 a4 a5:Int} {st rs:Value} {L:List MV} (h1:DataIs W st S) (h2:RunsOwn W base rs L) :
  VerAt W (.agg #[.int .i64 a1,.int .i64 a2,.int .i64 a3,.int .i64 a4,.int .i64 a5,st,rs]) ⟨a1,a2,a3,a4,a5,S,L.map MV.m⟩:=by
 obtain ⟨s1,d1,e1,-⟩:=h1.bat
 obtain ⟨s2,d2,e2⟩:=h2.slice
 have hr:=h2.at
 have hb:=h1.bat
 refine ⟨s1,d1,s2,d2,?_,?_,?_⟩
 ·rw [e1,e2];simp
 ·rw [←e1];exact hb
 ·rw [e2] at hr;simpa using hr
structure VerOwn (W:World) (base:Nat) (v:Value) (x:VerA):Prop where
 ex:∃st rs L,v=.agg #[.int .i64 x.gen,.int .i64 x.flushed,.int .i64 x.next,.int .i64 x.low,.int .i64 x.clock,st,rs]∧DataIs W st x.state∧RunsOwn W base rs L∧x.runs=L.map MV.m∧
  (st.ownBlock.toList++keyBlocks L).Nodup∧∀k∈st.ownBlock.toList++keyBlocks L,base≤k
def DecOwn (w':World) (base:Nat) (e:Ending):Option VerA→Prop
 | none=>e=.returned (.tuple #[.agg (verC 0 0 0 0 0 (.slice none 0 0) (.slice none 0 0)),.int .i64 100])
 | some x=>∃v,e=.returned (.tuple #[v,.int .i64 0])∧VerOwn w' base v x
theorem VerOwn.at {W:World} {base:Nat} {v:Value} {x:VerA} (h:VerOwn W base v x):VerAt W v x:=by
 obtain ⟨st,rs,L,rfl,h1,h2,h3,-,-⟩:=h.ex
 have h4:=verOf (a1:=x.gen) (a2:=x.flushed) (a3:=x.next) (a4:=x.low) (a5:=x.clock) h1 h2
 rw [←h3] at h4
 exact h4
theorem VerOwn.keep {S:Nat→Prop} {W W':World} {base:Nat} {v:Value} {x:VerA} (h:VerOwn W base v x) (hu:Upd S W W') (hS:∀k,S k→k<base):VerOwn W' base v x:=by
 obtain ⟨st,rs,L,rfl,h1,h2,h3,h4,h5⟩:=h.ex
 have hk:∀y∈L,∀k,(y.f.ownBlock=some k∨y.l.ownBlock=some k)→base≤k:=by
  intro y hy k hk
  refine h5 k (List.mem_append.2 (.inr (List.mem_flatMap.2 ⟨y,hy,List.mem_append.2 ?_⟩)))
  rcases hk with hk|hk
  ·exact .inl (by simpa using hk)
  ·exact .inr (by simpa using hk)
 refine ⟨st,rs,L,rfl,h1.upd hu (fun k e hs=>?_),⟨owns_upd h2.row hu (fun k e hs=>?_),fun y hy=>⟨(h2.data y hy).1.upd hu (fun k e hs=>?_),(h2.data y hy).2.upd hu (fun k e hs=>?_)⟩⟩,h3,h4,h5⟩
 ·have:=hS k hs;have:=h5 k (List.mem_append.2 (.inl (by simpa using e)));omega
 ·have:=hS k hs;have:=(h2.row.lt k e).1;omega
 ·have:=hS k hs;have:=hk y hy k (.inl e);omega
 ·have:=hS k hs;have:=hk y hy k (.inr e);omega
theorem rdN_nonneg (b:List UInt8) (s:RdA):0≤(rdN b s).1∧(rdN b s).1≤9223372036854775807:=by
 unfold rdN
 split
 ·simp
 ·rename_i h
  simp only [not_or] at h
  have:=h.2
  simp only
  omega
theorem rdRuns_step {M:RdA→MetaA×RdA} {K k:Nat} {s0 s:RdA} {pre:List MetaA} (hk:k<K) (hb:s.bad=false) (h:rdRunsG M K s0=(pre++(rdRunsG M (K-k) s).1,(rdRunsG M (K-k) s).2)) :
  rdRunsG M K s0=((pre ++ [(M s).1])++(rdRunsG M (K-(k+1)) (M s).2).1,(rdRunsG M (K-(k+1)) (M s).2).2):=by
 rw [h,show K-k=(K-(k+1))+1 from by omega,rdRunsG,if_neg (by rw [hb];decide)]
 simp
theorem rdRuns_end {M:RdA→MetaA×RdA} {K k:Nat} {s0 s:RdA} {pre:List MetaA} (hk:¬(k<K∧s.bad=false)) (h:rdRunsG M K s0=(pre++(rdRunsG M (K-k) s).1,(rdRunsG M (K-k) s).2)):rdRunsG M K s0=(pre,s):=by
 rw [h]
 have e:rdRunsG M (K-k) s=([],s):=by
  by_cases hkk:k<K
  ·rw [show K-k=(K-(k+1))+1 from by omega,rdRunsG,if_pos (by cases hs:s.bad<;>simp_all)]
  ·rw [show K-k=0 from by omega,rdRunsG]
 rw [e,List.append_nil]
theorem rdN'_nonneg (b:List UInt8) (s:RdA):0≤(rdN' b s).1∧(rdN' b s).1≤9223372036854775807:=by
 unfold rdN'
 split
 ·simp
 ·exact rdN_nonneg b s
theorem rdB'_len {B:List UInt8} {m:Nat} {s:RdA} (hB:B.length≤1048576):(rdB' B m s).1.length≤1048576:=by
 unfold rdB';split
 ·simp
 ·unfold rdB;split
  ·simp
  ·exact Nat.le_trans readB_len hB
end Go.Proofs.YtgaidmohdhaonaaGreatDoor
