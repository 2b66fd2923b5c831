/-
  Package wire, walked: outside, Uint, ReadUint, Bytes, ReadBytes.
  Package wire, walked: ReadUint.
  Package wire, walked: Bytes, ReadBytes.
  Package wire, walked: Sum, low, is.
  Package wire, walked: low, is.
  Package wire, walked: Frame.
-/
import Derived.Test.YtgaidmohdhaonaaGreatDoorGE
import Derived.Test.YtgaidmohdhaonaaGreatDoorWP
import Derived.Laws.BitsAll
import Derived.Laws.ShiftsVar
import Derived.Deep.DeepCutAuto
import Derived.OwnWalk
import Derived.StillTailTactics
set_option linter.unusedVariables false
set_option linter.unusedSimpArgs false
set_option linter.unnecessarySimpa false
set_option linter.unusedSectionVars false
set_option maxRecDepth 100000
set_option maxHeartbeats 3200000
namespace Go.Proofs.YtgaidmohdhaonaaGreatDoor
open Go Go.RowKit
def BAt (w:World) (v:Value) (bs:List UInt8):Prop:=
 ∃ao cap,v=.slice ao bs.length cap∧bs.length≤cap∧cap≤9223372036854775807∧(ao=none→bs=[]∧cap=0)∧∀j (hj:j<bs.length),∃g o,ao=some ⟨g,o,none⟩∧g<w.heap.size∧w.cell? ⟨g,o+j,none⟩=some (byteV bs[j])
theorem DataIs.bat {w:World} {v:Value} {bs:List UInt8} (h:DataIs w v bs):BAt w v bs:=by
 rcases h with ⟨rfl,rfl⟩|⟨g,cap,cur,rfl,hg,h1,h2,h3,h4⟩
 ·exact ⟨none,0,rfl,by simp,by simp,fun _=>⟨rfl,rfl⟩,fun j hj=>by simp at hj⟩
 ·refine ⟨some ⟨g,0,none⟩,cap,rfl,h1,by simpa [maxLen] using h3,(fun h=>by cases h),fun j hj=>⟨g,0,rfl,lt_of_heap hg,?_⟩⟩
  rw [Nat.zero_add,cell_of_row w g j cur _ _ hg,←Array.getElem?_toList]
  have h5:(cur.toList.take bs.length)[j]? = (bs.map byteV)[j]?:=by rw [h4]
  rw [List.getElem?_take,if_pos hj,List.getElem?_map,List.getElem?_eq_getElem hj] at h5
  exact h5
theorem BAt.bytes {w:World} {v:Value} {bs:List UInt8} (h:BAt w v bs):BytesAt w v bs:=by
 obtain ⟨ao,cap,rfl,h1,h2,h3,h4⟩:=h
 refine ⟨ao,cap,rfl,h3,fun a ha j u hu=>?_⟩
 by_cases hj:j<bs.length
 ·obtain ⟨g,o,e,-,hc⟩:=h4 j hj
  rw [ha] at e
  injection e with e
  subst e
  rw [List.getElem?_map,List.getElem?_eq_getElem hj] at hu
  rw [show (Addr.add ⟨g,o,none⟩ j:Addr)=⟨g,o+j,none⟩ from by simp [Addr.add_lit],hc]
  exact hu
 ·rw [List.getElem?_eq_none (by simp;omega)] at hu;cases hu
theorem BAt.upd {S:Nat→Prop} {w w':World} {v:Value} {bs:List UInt8} (h:BAt w v bs) (hu:Upd S w w') (hn:∀k,v.ownBlock=some k→0<bs.length→¬S k):BAt w' v bs:=by
 obtain ⟨ao,cap,rfl,h1,h2,h3,h4⟩:=h
 refine ⟨ao,cap,rfl,h1,h2,h3,fun j hj=>?_⟩
 obtain ⟨g,o,rfl,hg,hc⟩:=h4 j hj
 exact ⟨g,o,rfl,Nat.lt_of_lt_of_le hg hu.size,(World.cell?_of_block (a:=⟨g,o+j,none⟩) (hu.block g hg (hn g rfl (by omega)))).trans hc⟩
theorem BAt.keep {w w':World} {v:Value} {bs:List UInt8} (h:BAt w v bs) (hu:Upd (fun _=>False) w w'):BAt w' v bs:=h.upd hu (fun _ _ _ e=>e)
theorem BAt.sub {w:World} {g o cap:Nat} {bs:List UInt8} (h:BAt w (.slice (some ⟨g,o,none⟩) bs.length cap) bs) {lo n:Nat} (hn:lo+n≤bs.length):BAt w (.slice (some ⟨g,o+lo,none⟩) n (cap-lo)) ((bs.drop lo).take n):=by
 obtain ⟨ao,cp,e,h1,h2,h3,h4⟩:=h
 injection e with e1 _ e3
 subst e1 e3
 have hl:((bs.drop lo).take n).length=n:=by simp;omega
 refine ⟨some ⟨g,o+lo,none⟩,cap-lo,by rw [hl],by rw [hl];omega,by omega,(fun h=>by cases h),fun j hj=>?_⟩
 rw [hl] at hj
 obtain ⟨g',o',e,hg,hc⟩:=h4 (lo+j) (by omega)
 injection e with e
 injection e with e1 e2
 subst e1 e2
 refine ⟨g,o+lo,rfl,hg,?_⟩
 rw [Nat.add_assoc,hc]
 congr 2
 simp
theorem bytes_newB (w:World) (ms:List UInt8):BytesAt (w.alloc (.cells (ms.map byteV).toArray 5)) (.slice (some ⟨w.heap.size,0,none⟩) ms.length ms.length) ms:=by
 refine ⟨some ⟨w.heap.size,0,none⟩,ms.length,rfl,(fun h=>by cases h),fun a ha j u hu=>?_⟩
 cases ha
 rw [show (Addr.add ⟨w.heap.size,0,none⟩ j:Addr)=⟨w.heap.size,j,none⟩ from by simp [Addr.add_lit],cell_of_row _ _ j _ _ _ (heap_alloc_new w _)]
 rw [←Array.getElem?_toList]
 exact hu
structure NewB (w w':World) (v:Value) (bs:List UInt8):Prop where
 data:DataIs w' v bs
 new:∀k,v.ownBlock=some k→w.heap.size≤k
 upd:Upd (fun _=>False) w w'
theorem NewB.shape {w w':World} {v:Value} {bs:List UInt8} (h:NewB w w' v bs):∃ao cap,v=.slice ao bs.length cap∧bs.length≤cap∧cap≤9223372036854775807:=by
 obtain ⟨ao,cap,e,h1,h2,-⟩:=h.data.bat
 exact ⟨ao,cap,e,h1,h2⟩
theorem NewB.nil (w:World):NewB w w (.slice none 0 0) []:=⟨.inl ⟨rfl,rfl⟩,fun k e=>(by cases e),Upd.refl _ _⟩
theorem NewB.push {w w1:World} {v:Value} {bs:List UInt8} (h:NewB w w1 v bs) (ms:List UInt8) (hl:bs.length+ms.length≤140737488355328) (ty:TypeId) :
  ∃v' w2,(Builtin.append_ #[22,22] ty #[v,.slice (some ⟨w1.heap.size,0,none⟩) ms.length ms.length]).run Tryz.prog (w1.alloc (.cells (ms.map byteV).toArray 5))=.ok v' w2∧NewB w w2 v' (bs++ms):=by
 have hal:Upd (fun _=>False) w1 (w1.alloc (.cells (ms.map byteV).toArray 5)):=(Upd.refl _ _).alloc _
 obtain ⟨v',w2,hr,hd,hu,hat⟩:=run_append_data (h.data.upd hal (fun _ _ h=>h)) (bytes_newB w1 ms) hl ty
 have hs:=h.upd.size
 exact ⟨v',w2,hr,hd,fun k hk=>(hat k hk).elim (h.new k) (fun e=>by simp at e;omega),(h.upd.trans hal (fun _ _ h=>h)).trans hu (fun k hk e=>by have:=h.new k e;omega)⟩
theorem NewB.join {w w1:World} {v s:Value} {bs news:List UInt8} (h:NewB w w1 v bs) (hs:BAt w1 s news) (hl:bs.length+news.length≤140737488355328) (ty:TypeId) :
  ∃v' w2,(Builtin.append_ #[22,22] ty #[v,s]).run Tryz.prog w1=.ok v' w2∧NewB w w2 v' (bs++news):=by
 obtain ⟨v',w2,hr,hd,hu,hat⟩:=run_append_data h.data hs.bytes hl ty
 have hsz:=h.upd.size
 exact ⟨v',w2,hr,hd,fun k hk=>(hat k hk).elim (h.new k) (fun e=>by omega),h.upd.trans hu (fun k hk e=>by have:=h.new k e;omega)⟩
theorem wpList_append_run {P:Program} {ops:Array Oper} {rest:List Oper} {o:Oper} {a:Act} {w:World} {Q:Exit→Act→World→Prop} (hg:o.guard=none) (s x:Operand) (t:TypeId)
  (hop:o.op=Op.call { callee:=Callee.builtin Builtin.append,args:=#[s,x],argTypes:=#[t,t] }) {va vx v:Value} {w':World} (hs:a.eval s=va) (hx:a.eval x=vx)
  (hrun:(Builtin.append_ #[t,t] o.type #[va,vx]).run P w=.ok v w') (h:wpList P ops Q rest (a.put o.dst v) w'):wpList P ops Q (o :: rest) a w:=by
 refine wpList_plain hg fun K hK=>?_
 unfold Oper.wp
 simp [execOp,hop,resolve,invoke,builtin,hs,hx,hrun,Result.andThen]
 exact hK _ _ h
theorem or128 (m:Nat):bits .or .u8 ((m:Int)%256) 128=(((UInt8.ofNat (128+m%128)).toNat:Nat):Int):=by
 rw [UInt8.toNat_ofNat']
 rw [u8_or _ _ (by omega) (by omega) (by omega) (by omega)]
 have e:(((m:Int)%256).toNat ||| (128:Int).toNat)=128+m%128:=by
  have h1:((m:Int)%256).toNat=m%256:=by omega
  have h2:(128:Int).toNat=128:=rfl
  rw [h1,h2]
  have:∀x:Fin 256,x.1 ||| 128=128+x.1%128:=by decide +kernel
  have:=this ⟨m%256,Nat.mod_lt _ (by decide)⟩
  simp only at this
  omega
 rw [e]
 omega
theorem or_shift (v c i:Nat) (hv:v<2^(7*i)) (h:2^(7*i)*c<18446744073709551616) (hv2:v<18446744073709551616):bits .or .u64 (v:Int) (((2^(7*i)*c:Nat)):Int)=((v+2^(7*i)*c:Nat):Int):=by
 rw [u64_or_nat v _ hv2 h,Nat.or_comm,nat_join (7*i) _ v (by rw [Nat.mul_mod_right]) hv,Nat.add_comm]
theorem outside_in {w:World} {v:Value} {bs:List UInt8} (hv:BAt w v bs) {a:Nat} (ha:a≤bs.length) :
  Calls Tryz.prog 133 #[v,.int .i64 a] w fun e w'=>e=.returned (.bool false)∧w'=w:=by
 obtain ⟨ao,cap,rfl,h1,h2,-,-⟩:=hv
 have i1:¬(a:Int)<0:=by omega
 have i2:¬(bs.length:Int)<(a:Int):=by omega
 go_enter Tryz.func133,Tryz.ntmps133
 go_wp2
 go_ret
 exact ⟨rfl,rfl⟩
theorem uint_any {w:World} {n:Nat} (hn:n<18446744073709551616) :
  Calls Tryz.prog 69 #[.int .u64 n] w fun e w'=>∃v,e=.returned v∧NewB w w' v (uintB n):=by
 have hlen:=uintB_len 9 n (by omega)
 go_enter Tryz.func69,Tryz.ntmps69
 go_wp2
 go_loopw [0,3] (fun nv bv wr=>∃m:Nat,nv=.int .u64 m∧m<18446744073709551616∧∃pre ao cap,bv=.slice ao pre.length cap∧NewB w wr (.slice ao pre.length cap) pre∧uintB n=pre++uintB m) (fun nv _ _=>(intOf nv).toNat)
 case atStart=>exact ⟨n,rfl,hn,[],none,0,rfl,NewB.nil w,rfl⟩
 case round=>
  obtain ⟨m,rfl,hm,pre,ao,cap,rfl,hnew,he⟩:=hrel
  have hpl:pre.length≤10:=by have:=congrArg List.length he;rw [List.length_append] at this;omega
  have HE:=hid he
  obtain ⟨L,hL⟩:∃L,L=pre.length:=⟨_,rfl⟩
  by_cases hb:128≤m
  ·have hbig:(128:Int)≤(m:Int):=by omega
   have hor:=or128 m
   obtain ⟨v',w2,hr,hn2⟩:=hnew.push [UInt8.ofNat (128+m%128)] (by simp;omega) 22
   obtain ⟨ao2,cap2,hv2,-,-⟩:=hn2.shape
   rw [List.length_append,List.length_singleton] at hv2
   subst hv2
   have hr':(Builtin.append_ #[22,22] 22 #[.slice ao pre.length cap,.slice (some ⟨wr.heap.size,0,none⟩) 1 1]).run Tryz.prog (wr.alloc (.cells #[.int .u8 ((UInt8.ofNat (128+m%128)).toNat:Int)] 5))=.ok (.slice ao2 (pre.length+1) cap2) w2:=hr
   rw [←hor] at hr'
   rw [←hL] at hr'⊢
   obtain ⟨L2,hL2⟩:∃L2,L2=L+1:=⟨_,rfl⟩
   rw [←hL2] at hr'
   have HR:=hid hr';have HN:=hid hn2;have Ka:=hid hL;have Kb:=hid hL2
   clear hr hr' hn2 hor hnew he hL hL2 hlen
   go_wp2_with (at_builtin;refine wpList_append_run rfl _ _ _ rfl rfl rfl HR.out ?_)
   go_roundw
   case rel=>
    refine ⟨m / 128,by simp,by omega,pre ++ [UInt8.ofNat (128+m%128)],ao2,cap2,by rw [Kb.out,Ka.out];simp,?_,?_⟩
    ·have h:=HN.out
     simpa using h
    ·rw [HE.out,uintB_big (by omega:¬m<128)]
     simp
   case measure=>simp [intOf];omega
  ·have hsm:¬(128:Int)≤(m:Int):=by omega
   have hw8:(((UInt8.ofNat m).toNat:Nat):Int)=(m:Int):=by rw [UInt8.toNat_ofNat'];omega
   obtain ⟨v',w2,hr,hn2⟩:=hnew.push [UInt8.ofNat m] (by simp;omega) 22
   obtain ⟨ao2,cap2,hv2,-,-⟩:=hn2.shape
   have hr':(Builtin.append_ #[22,22] 22 #[.slice ao pre.length cap,.slice (some ⟨wr.heap.size,0,none⟩) 1 1]).run Tryz.prog (wr.alloc (.cells #[.int .u8 ((UInt8.ofNat m).toNat:Int)] 5))=.ok v' w2:=hr
   rw [hw8] at hr'
   have hfin:NewB w w2 v' (uintB n):=by rw [he,uintB_small (by omega)];exact hn2
   rw [←hL] at hr'⊢
   rw [hv2] at hr' hfin
   obtain ⟨L2,hL2⟩:∃L2,L2=(pre ++ [UInt8.ofNat m]).length:=⟨_,rfl⟩
   rw [←hL2] at hr' hfin
   have HR:=hid hr';have HF:=hid hfin
   clear hr hr' hn2 hnew he hL hL2 hv2 hfin hlen hw8
   go_wp2_with (at_builtin;refine wpList_append_run rfl _ _ _ rfl rfl rfl HR.out ?_)
   go_ret
   exact ⟨_,rfl,HF.out⟩
theorem and127 (c:UInt8):bits .and .u8 (c.toNat:Int) 127=((c.toNat%128:Nat):Int):=by
 have h:=c.toNat_lt
 rw [show (127:Int)=((127:Nat):Int) from rfl,u8_and_nat _ _ (by omega) (by omega),nat_mask7]
theorem pow128 (i:Nat):128^i=2^(7*i):=by rw [Nat.pow_mul]
theorem orShift {x i c:Nat} (hx:x<128^i) (hi:i≤9) (h9:True) (hc:c<2^8) (hc9:i=9→c≤1):bits .or .u64 (x:Int) (IntKind.u64.wrap ((c:Int)%128*2^(7*i)))=((x+128^i*(c%128):Nat):Int):=by
 rw [pow128] at hx⊢
 have hm:c%128<128:=Nat.mod_lt _ (by decide)
 have hb:2^(7*i)*(c%128)<18446744073709551616∧x<18446744073709551616:=by
  have hp:2^(7*i)≤2^63:=Nat.pow_le_pow_right (by decide) (by omega)
  by_cases e:i=9
  ·have h1:=hc9 e
   have h2:c%128≤1:=by omega
   have h3:2^(7*i)*(c%128)≤2^(7*i)*1:=Nat.mul_le_mul_left _ h2
   omega
  ·have hp2:2^(7*i)≤2^56:=Nat.pow_le_pow_right (by decide) (by omega)
   have h3:2^(7*i)*(c%128)≤2^56*127:=Nat.mul_le_mul hp2 (by omega)
   omega
 have e1:((c:Int)%128*2^(7*i))=((2^(7*i)*(c%128):Nat):Int):=by
  push_cast
  rw [Int.mul_comm]
 rw [e1,IntKind.wrap_u64,Int.emod_eq_of_lt (by omega) (by omega)]
 exact or_shift x (c%128) i hx hb.1 hb.2
theorem readUint_any {w:World} {v:Value} {b:List UInt8} (hv:BAt w v b) {a:Nat} (ha:a≤b.length) (hl:b.length≤4611686018427387904) :
  Calls Tryz.prog 135 #[v,.int .i64 a] w fun e w'=>e=.returned (.tuple #[.int .u64 ((readU b a).1:Nat),.int .i64 ((readU b a).2.1:Nat),.int .i64 (readU b a).2.2])∧w'=w:=by
 have HV:=hid hv
 obtain ⟨R,hR⟩:∃R,R=readU b a:=⟨_,rfl⟩
 rw [←hR]
 have Kc:=hid hR
 clear hR
 obtain ⟨ao,cap,rfl,h1,h2,-,hcell⟩:=hv
 have HC:=hid hcell
 clear hcell
 go_enter Tryz.func135,Tryz.ntmps135
 go_wp2_with fail
 refine (outside_in HV.out ha).mono ?_
 rintro e w' ⟨rfl,hww⟩
 obtain rfl:=hww.symm
 go_wp2
 go_loopw [7,8] (fun vv iv wr=>∃i:Nat,i≤9∧iv=.int .i64 i∧∃x:Nat,vv=.int .u64 x∧x<128^i∧a+i≤b.length∧R=ru (b.drop (a+i)) (a+i) i x∧wr=w) (fun _ iv _=>10-(intOf iv).toNat)
 case atStart=>exact ⟨0,by omega,rfl,0,rfl,by simp,ha,Kc.out,rfl⟩
 case round=>
  obtain ⟨i,hi,rfl,x,rfl,hx,hai,he,hww⟩:=hrel
  obtain rfl:=hww.symm
  by_cases hend:b.length≤a+i
  ·have hr:R=(0,0,10):=by rw [he,List.drop_eq_nil_of_le hend];rfl
   have HF:=hid hr
   have hendi:(b.length:Int)≤(a:Int)+(i:Int):=by omega
   clear he hr
   go_wp2
   go_ret3
   exact ⟨by rw [HF.out];rfl,rfl⟩
  ·have hendi:¬(b.length:Int)≤(a:Int)+(i:Int):=by omega
   obtain ⟨g,o,rfl,hg,d0⟩:=HC.out (a+i) (by omega)
   have hdrop:b.drop (a+i)=b[a+i]'(by omega) :: b.drop (a+i+1):=List.drop_eq_getElem_cons (by omega)
   rw [hdrop] at he
   generalize b[a+i]'(by omega)=c at d0 he
   rw [ru] at he
   have hc8:=c.toNat_lt
   simp only [byteV] at d0
   clear hdrop
   by_cases h9:i=9∧1<c.toNat
   ·rw [if_pos h9] at he
    have HF:=hid he
    obtain ⟨h91,h92⟩:=h9
    subst h91
    have h92i:(1:Int)<(c.toNat:Int):=by omega
    clear he
    go_wp2
    go_ret3
    exact ⟨by rw [HF.out];rfl,rfl⟩
   ·rw [if_neg h9] at he
    have hand:=and127 c
    have hpow:(7*(i:Int)).toNat=7*i:=by omega
    have h7:0≤7*(i:Int):=by omega
    have h763:7*(i:Int)≤63:=by omega
    have h9':¬(i=9∧(1:Int)<(c.toNat:Int)):=by omega
    have HE:=hid he;have H9:=hid h9
    clear he h9
    go_upto_region 9 with fail
    go_cut [32] (fun bv wx=>bv=.bool false∧wx=w)
    case first=>
     by_cases hi9:i=9
     ·subst hi9
      have hle:¬(1:Int)<(c.toNat:Int):=by omega
      go_wp2
      go_meet
      case rel=>exact ⟨rfl,rfl⟩
     ·have hne:((i:Int)==9)=false:=by simp;omega
      go_wp2
      go_meet
      case rel=>exact ⟨rfl,rfl⟩
    case rest=>
     obtain ⟨rfl,hcw⟩:=hcut
     obtain rfl:=hcw.symm
     have hor:=orShift hx hi trivial (c:=c.toNat) hc8 (fun e=>by omega)
     obtain ⟨x2,hx2⟩:∃x2:Nat,x2=x+128^i*(c.toNat%128):=⟨_,rfl⟩
     rw [←hx2] at hor
     have hx3:x2<128^(i+1):=by
      rw [hx2,Nat.pow_succ]
      have h1:128^i*(c.toNat%128)≤128^i*127:=Nat.mul_le_mul_left _ (by omega)
      omega
     have Kb:=hid hx2;have Kd:=hid hx3
     clear hx2 hx3
     go_upto_region 12 with fail
     try rw [hor]
     clear hor hand hpow h7 h763 h9'
     by_cases hc:c.toNat<128
     ·have hci:(c.toNat:Int)<128:=by omega
      have Ka:=HE.out
      rw [if_pos hc] at Ka
      by_cases hz:c.toNat=0∧0<i
      ·rw [if_pos hz] at Ka
       have HF:=hid Ka
       obtain ⟨hz1,hz2⟩:=hz
       have hz1i:((c.toNat:Int)==0)=true:=by simp [hz1]
       have hz2i:(0:Int)<(i:Int):=by omega
       clear Ka hz1
       go_wp2
       go_ret3
       exact ⟨by rw [HF.out];rfl,rfl⟩
      ·rw [if_neg hz] at Ka
       have hxe:x+128^i*c.toNat=x2:=by rw [Kb.out,Nat.mod_eq_of_lt hc]
       rw [hxe] at Ka
       have HF:=hid Ka
       clear Ka hxe
       by_cases hz0:c.toNat=0
       ·have hz1i:((c.toNat:Int)==0)=true:=by simp [hz0]
        have hz2i:¬(0:Int)<(i:Int):=by omega
        clear hz hz0
        go_wp2
        go_ret3
        exact ⟨by rw [HF.out];rfl,rfl⟩
       ·have hz1i:((c.toNat:Int)==0)=false:=by simp [hz0]
        clear hz hz0
        go_wp2
        go_ret3
        exact ⟨by rw [HF.out];rfl,rfl⟩
     ·have hci:¬(c.toNat:Int)<128:=by omega
      have Ka:=HE.out
      rw [if_neg hc] at Ka
      have hxe:x+128^i*(c.toNat-128)=x2:=by rw [Kb.out];congr 2;omega
      rw [hxe] at Ka
      have hlt9:i<9:=by
       by_cases e:i=9
       ·have:=H9.out;omega
       ·omega
      have H2:=hid Ka
      have hai2:a+i+1≤b.length:=by omega
      clear Ka hxe
      go_wp2
      go_roundw
      case rel=>exact ⟨i+1,by omega,by go_num,x2,rfl,Kd.out,by omega,by have h:=H2.out;rw [show a+(i+1)=a+i+1 from by omega];exact h,by trivial⟩
      case measure=>simp [intOf];omega
theorem bytes_any {w:World} {v:Value} {b:List UInt8} (hv:BAt w v b) (hl:b.length≤140737488351232) :
  Calls Tryz.prog 70 #[v] w fun e w'=>∃v',e=.returned v'∧NewB w w' v' (bytesB b):=by
 have HV:=hid hv
 have HU:=hid (uint_any (w:=w) (n:=b.length) (by omega))
 have hul:=uintB_len 9 b.length (by omega)
 obtain ⟨ao,cap,rfl,h1,h2,-,-⟩:=hv
 go_enter Tryz.func70,Tryz.ntmps70
 go_wp2_with fail
 refine HU.out.mono ?_
 rintro e w1 ⟨v1,rfl,hn⟩
 obtain ⟨v2,w2,hr,hn2⟩:=hn.join (HV.out.keep hn.upd) (by omega) 22
 obtain ⟨a1,c1,hv1,-,-⟩:=hn.shape
 obtain ⟨a2,c2,hv2,-,-⟩:=hn2.shape
 rw [hv1,hv2] at hr
 rw [hv1]
 rw [hv2] at hn2
 obtain ⟨L1,hL1⟩:∃L,L=(uintB b.length).length:=⟨_,rfl⟩
 obtain ⟨L2,hL2⟩:∃L,L=(uintB b.length++b).length:=⟨_,rfl⟩
 rw [←hL2] at hr hn2
 rw [←hL1] at hr⊢
 have HR:=hid hr;have HN:=hid hn2
 clear hr hn2 hn hv1 hv2 hL1 hL2 hul
 go_wp2_with (at_builtin;refine wpList_append_run rfl _ _ _ rfl rfl rfl HR.out ?_)
 go_ret
 exact ⟨_,rfl,HN.out⟩
theorem readBytes_any {w:World} {v:Value} {b:List UInt8} (hv:BAt w v b) {a:Nat} (ha:a≤b.length) (hl:b.length≤140737488351232) {most:Nat} (hm:most≤140737488351232) :
  Calls Tryz.prog 136 #[v,.int .i64 a,.int .i64 most] w fun e w'=>∃v',e=.returned (.tuple #[v',.int .i64 ((readB b a most).2.1:Nat),.int .i64 (readB b a most).2.2])∧NewB w w' v' (readB b a most).1:=by
 have HV:=hid hv
 have Kb:=hid (outside_in hv ha)
 have Ka:=hid (readUint_any hv ha (by omega))
 obtain ⟨R,hR⟩:∃R,R=readB b a most:=⟨_,rfl⟩
 obtain ⟨U,hU⟩:∃U,U=readU b a:=⟨_,rfl⟩
 rw [←hR]
 rw [←hU] at Ka
 have hok:U.2.2=0→U.1<18446744073709551616∧a<U.2.1∧U.2.1≤b.length:=fun h=>by rw [hU] at h⊢;exact readU_ok h ha
 unfold readB at hR
 simp only [←hU] at hR
 obtain ⟨u1,u2,u3⟩:=U
 simp only at hR hok Ka
 have HR:=hid hR;have Kd:=hid hok
 obtain ⟨ao,cap,rfl,h1,h2,h3,h4⟩:=hv
 have HC:=hid h4;have HN:=hid h3
 clear hR hok hU h3 h4
 have hm0:¬(most:Int)<0:=by omega
 go_enter Tryz.func136,Tryz.ntmps136
 go_wp2_with fail
 refine Kb.out.mono ?_
 rintro e w' ⟨rfl,hww⟩
 obtain rfl:=hww.symm
 go_wp2_with fail
 refine Ka.out.mono ?_
 rintro e w' ⟨rfl,hww⟩
 obtain rfl:=hww.symm
 by_cases he:u3=0
 ·subst he
  obtain ⟨k1,k2,k3⟩:=Kd.out rfl
  have hR:=HR.out
  rw [if_neg (by simp)] at hR
  by_cases hb:most<u1
  ·rw [if_pos hb] at hR
   have HF:=hid hR
   have hbi:(most:Int)<(u1:Int):=by omega
   clear hR hb
   go_wp2
   go_ret3
   exact ⟨.slice none 0 0,by rw [HF.out];rfl,by rw [HF.out];exact NewB.nil _⟩
  ·rw [if_neg hb] at hR
   have hbi:¬(most:Int)<(u1:Int):=by omega
   by_cases ht:b.length-u2<u1
   ·rw [if_pos ht] at hR
    have HF:=hid hR
    have hti:(b.length:Int)-(u2:Int)<(u1:Int):=by omega
    clear hR hb ht
    go_wp2
    go_ret3
    exact ⟨.slice none 0 0,by rw [HF.out];rfl,by rw [HF.out];exact NewB.nil _⟩
   ·rw [if_neg ht] at hR
    have HF:=hid hR
    have hti:¬(b.length:Int)-(u2:Int)<(u1:Int):=by omega
    obtain ⟨g,o,rfl⟩:∃g o,ao=some ⟨g,o,none⟩:=by
     obtain ⟨g,o,e,-⟩:=HC.out 0 (by omega)
     exact ⟨g,o,e⟩
    have hsub:=(HV.out.sub (lo:=u2) (n:=u1) (by omega)).bytes
    have Ke:=hid (clone_any hsub (by simp;omega))
    have Kc:=hid (show ∀(ad:Addr) (c:Nat),u1=0→Calls Tryz.prog 122 #[.slice (some ad) u1 c] w fun e w'=>∃v',e=.returned v'∧DataIs w' v' ((b.drop u2).take u1)∧(∀k,v'.ownBlock=some k→w.heap.size≤k)∧Below w.heap.size w w' from fun ad c h=>by
     subst h
     exact clone_any (v:=.slice (some ad) 0 c) (bs:=[]) ⟨some ad,c,rfl,(fun h=>by cases h),fun a _ j u hu=>by simp at hu⟩ (by simp))
    have hlo:u2+u1≤b.length:=by omega
    clear hR hb ht hsub
    go_wp2_with fail
    all_goals
     first
      | refine Ke.out.mono ?_
      | refine (Kc.out _ _ (by omega)).mono ?_
     rintro e w2 ⟨v2,rfl,hd,hnew,hbel⟩
     have Kf:=hid (show NewB w w2 v2 R.1 from by rw [HF.out];exact ⟨hd,hnew,Upd.of_below hbel⟩)
     clear hd hnew hbel
     go_wp2
     go_ret3
     exact ⟨v2,by rw [HF.out];rfl,Kf.out⟩
 ·have hR:=HR.out
  rw [if_pos he] at hR
  have HF:=hid hR
  have hei:(u3 != 0)=true:=by simpa using he
  clear hR he
  go_wp2
  go_ret3
  exact ⟨.slice none 0 0,by rw [HF.out];rfl,by rw [HF.out];exact NewB.nil _⟩
def TabIn (w:World):Prop:=0<w.heap.size∧∀j t:Nat,crcTab[j]? = some t→w.cell? ⟨0,j,none⟩=some (.int .u32 (t:Int))
theorem TabIn.upd {S:Nat→Prop} {w w':World} (h:TabIn w) (hu:Upd S w w') (hn:¬S 0):TabIn w':=
 ⟨Nat.lt_of_lt_of_le h.1 hu.size,fun j t e=>(World.cell?_of_block (a:=⟨0,j,none⟩) (hu.block 0 h.1 hn)).trans (h.2 j t e)⟩
theorem TabIn.keep {w w':World} (h:TabIn w) (hu:Upd (fun _=>False) w w'):TabIn w':=h.upd hu (fun e=>e)
theorem xor8 (r b:Nat) (hb:b<256):bits .and .u8 (bits .xor .u8 ((r:Int)%256) (b:Int)) 15=(((r ^^^ b)%16:Nat):Int)∧bits .xor .u8 ((r:Int)%256) (b:Int)%16=(((r ^^^ b)%16:Nat):Int):=by
 have h1:bits .xor .u8 ((r:Int)%256) (b:Int)=(((r%256) ^^^ b:Nat):Int):=by
  rw [show ((r:Int)%256)=((r%256:Nat):Int) from by omega,u8_xor_nat _ _ (by omega) hb]
 have h2:(r%256 ^^^ b)<256:=Nat.xor_lt_two_pow (n:=8) (by omega) hb
 have h3:(r%256 ^^^ b)%16=(r ^^^ b)%16:=by rw [xor_mod16,xor_mod16 r];congr 1;omega
 rw [h1]
 refine ⟨?_,by omega⟩
 rw [show (15:Int)=((15:Nat):Int) from rfl,u8_and_nat _ _ h2 (by omega),nat_mask4,h3]
theorem tab_lt {j t:Nat} (h:crcTab[j]? = some t):t<4294967296∧j<16:=by
 have hj:j<crcTab.length:=by
  by_cases hj:j<crcTab.length
  ·exact hj
  ·rw [List.getElem?_eq_none (by omega)] at h;cases h
 have hj':j<16:=hj
 have:∀n:Fin 16,∀t,crcTab[n.1]? = some t→t<4294967296:=by decide +kernel
 exact ⟨this ⟨j,hj'⟩ t h,hj'⟩
theorem sum_any {w:World} {v:Value} {bs:List UInt8} {q:Nat} (hT:TabIn w) (hq:w.heap[q]? = some (.cells #[v] 22 (0,0))) (hv:BAt w v bs) (hl:bs.length≤140737488351232) :
  Calls Tryz.prog 132 #[.slice (some ⟨q,0,none⟩) 1 1] w fun e w'=>e=.returned (.int .u32 (crc bs:Nat))∧w'=w:=by
 have HV:=hid hv;have HT:=hid hT
 have hql:=lt_of_heap hq
 have hq0:w.cell? ⟨q,0,none⟩=some v:=by rw [cell_of_row w q 0 _ _ _ hq];rfl
 obtain ⟨ao,cap,rfl,h1,h2,-,h4⟩:=hv
 have HC:=hid h4
 clear hq hT h4
 go_enter Tryz.func132,Tryz.ntmps132
 go_wp2
 go_loopw [3,10] (fun cv iv wr=>wr=w∧∃n:Nat,n≤1∧iv=.int .i64 n∧cv=.int .u32 ((creg 4294967295 (if n=0 then [] else bs):Nat):Int)) (fun _ iv _=>1-(intOf iv).toNat)
 case atStart=>exact ⟨rfl,0,by omega,rfl,rfl⟩
 case round=>
  obtain ⟨hww,n,hn,rfl,rfl⟩:=hrel
  obtain rfl:=hww.symm
  by_cases hn0:n=0
  ·subst hn0
   rw [if_pos rfl]
   go_wp2
   go_loopw [3,16] (fun cv iv wr=>wr=w∧∃k:Nat,k≤bs.length∧iv=.int .i64 k∧∃r:Nat,r<4294967296∧r=creg 4294967295 (bs.take k)∧cv=.int .u32 (r:Int)) (fun _ iv _=>bs.length-(intOf iv).toNat)
   case atStart=>exact ⟨rfl,0,Nat.zero_le _,rfl,4294967295,by decide,rfl,rfl⟩
   case round=>
    obtain ⟨hww2,k,hk,rfl,r,hr,hre,rfl⟩:=hrel
    obtain rfl:=hww2.symm
    by_cases hlt:k<bs.length
    ·obtain ⟨g,o,rfl,hg,d0⟩:=HC.out k hlt
     have hstep:=creg_step 4294967295 bs k hlt
     rw [←hre] at hstep
     generalize bs[k]=c at d0 hstep
     simp only [byteV] at d0
     have hc8:c.toNat<256:=c.toNat_lt
     obtain ⟨t1,ht1,hb1⟩:=cbits4 r c.toNat
     have hr1:cbits 4 r c.toNat<4294967296:=cbits_lt 4 hr
     obtain ⟨r1,hr1e⟩:∃r1,r1=cbits 4 r c.toNat:=⟨_,rfl⟩
     rw [←hr1e] at hb1 hr1
     obtain ⟨t2,ht2,hb2⟩:=cbits4 r1 (c.toNat / 16)
     have hst2:creg 4294967295 (bs.take (k+1))=cbits 4 r1 (c.toNat / 16):=by rw [hstep];unfold cbyte;rw [cbits8,←hr1e]
     have hr2:cbits 4 r1 (c.toNat / 16)<4294967296:=cbits_lt 4 hr1
     obtain ⟨x1,y1⟩:=xor8 r c.toNat hc8
     obtain ⟨x2,y2⟩:=xor8 r1 (c.toNat / 16) (by omega)
     obtain ⟨j1,hj1⟩:∃j1,j1=(r ^^^ c.toNat)%16:=⟨_,rfl⟩
     obtain ⟨j2,hj2⟩:∃j2,j2=(r1 ^^^ (c.toNat / 16))%16:=⟨_,rfl⟩
     rw [←hj1] at ht1 x1 y1
     rw [←hj2] at ht2 x2 y2
     have t1l:=(tab_lt ht1).1
     have t2l:=(tab_lt ht2).1
     have hj16:j1<16:=(tab_lt ht1).2
     have hj26:j2<16:=(tab_lt ht2).2
     have g1:=HT.out.2 j1 t1 ht1
     have g2:=HT.out.2 j2 t2 ht2
     have hp0:=HT.out.1
     have Kd:=hid hst2;have Ke:=hid hb1;have Kf:=hid hb2
     clear hre hstep ht1 ht2 hst2 hb1 hb2 hj1 hj2 hr1e
     have e16:((c.toNat / 16:Nat):Int)=(c.toNat:Int) / 16:=by omega
     rw [e16] at x2 y2
     have z1:bits .xor .u32 ((r:Int) / 16) (t1:Int)=((r1:Nat):Int):=by
      rw [show ((r:Int) / 16)=((r / 16:Nat):Int) from by omega,u32_xor_nat _ _ (by omega) t1l,←Ke.out]
     obtain ⟨r2,hr2e⟩:∃r2,r2=cbits 4 r1 (c.toNat / 16):=⟨_,rfl⟩
     have z2:bits .xor .u32 ((r1:Int) / 16) (t2:Int)=((r2:Nat):Int):=by
      rw [show ((r1:Int) / 16)=((r1 / 16:Nat):Int) from by omega,u32_xor_nat _ _ (by omega) t2l,hr2e,Kf.out]
     have Kg:=hid (show r2<4294967296 from by rw [hr2e];exact hr2)
     have Ka:=hid (show r2=creg 4294967295 (bs.take (k+1)) from by rw [Kd.out,hr2e])
     clear hr2 hr2e e16 t1l t2l
     go_wp2
     go_roundw
     case rel=>exact ⟨by trivial,k+1,by omega,by go_num,r2,Kg.out,Ka.out,rfl⟩
     case measure=>simp [intOf];omega
    ·obtain rfl:k=bs.length:=by omega
     have Kh:=hid (show r=creg 4294967295 bs from by rw [hre,List.take_length])
     clear hre
     go_wp2
     go_roundw
     case rel=>exact ⟨by trivial,1,by omega,by go_num,by rw [if_neg (by decide),←Kh.out]⟩
     case measure=>simp [intOf]
  ·obtain rfl:n=1:=by omega
   rw [if_neg (by decide)]
   have hcl:=creg_lt bs (r:=4294967295) (by decide)
   have Kb:=hid (show crc bs=4294967295-creg 4294967295 bs from rfl)
   generalize creg 4294967295 bs=r at hcl Kb
   have hnot:bits .xor .u32 IntKind.u32.max (r:Int)=((4294967295-r:Nat):Int):=by
    rw [show IntKind.u32.max=((4294967295:Nat):Int) from rfl,u32_xor_nat _ _ (by decide) hcl,Nat.xor_comm,not32 r hcl]
   have Kc:=hid hnot
   clear hnot
   go_wp2
   go_ret
   refine ⟨?_,rfl⟩
   show Ending.returned (.int .u32 (bits .xor .u32 IntKind.u32.max (r:Int)))=_
   rw [Kc.out,Kb.out]
theorem low_any {w0 w:World} {v:Value} {bs:List UInt8} {x:Nat} (hn:NewB w0 w v bs) (hx:x<4294967296) (hl:bs.length≤140737488351232) :
  Calls Tryz.prog 131 #[v,.int .u32 x] w fun e w'=>∃v',e=.returned v'∧NewB w0 w' v' (bs++lowB x):=by
 obtain ⟨v2,w2,hr,hn2⟩:=hn.push (lowB x) (by simp [lowB];omega) 22
 obtain ⟨a1,c1,hv1,-,-⟩:=hn.shape
 obtain ⟨a2,c2,hv2,-,-⟩:=hn2.shape
 have e0:(((UInt8.ofNat x).toNat:Nat):Int)=(x:Int)%256:=by rw [UInt8.toNat_ofNat'];omega
 have e1:(((UInt8.ofNat (x / 256)).toNat:Nat):Int)=(x:Int) / 256%256:=by rw [UInt8.toNat_ofNat'];omega
 have e2:(((UInt8.ofNat (x / 65536)).toNat:Nat):Int)=(x:Int) / 65536%256:=by rw [UInt8.toNat_ofNat'];omega
 have e3:(((UInt8.ofNat (x / 16777216)).toNat:Nat):Int)=(x:Int) / 16777216:=by rw [UInt8.toNat_ofNat'];omega
 have hr':(Builtin.append_ #[22,22] 22 #[v,.slice (some ⟨w.heap.size,0,none⟩) 4 4]).run Tryz.prog (w.alloc (.cells #[.int .u8 (((UInt8.ofNat x).toNat:Nat):Int),.int .u8 (((UInt8.ofNat (x / 256)).toNat:Nat):Int),.int .u8 (((UInt8.ofNat (x / 65536)).toNat:Nat):Int),.int .u8 (((UInt8.ofNat (x / 16777216)).toNat:Nat):Int)] 5))=.ok v2 w2:=hr
 rw [e0,e1,e2,e3,hv1,hv2] at hr'
 rw [hv1]
 rw [hv2] at hn2
 obtain ⟨L1,hL1⟩:∃L,L=bs.length:=⟨_,rfl⟩
 obtain ⟨L2,hL2⟩:∃L,L=(bs++lowB x).length:=⟨_,rfl⟩
 rw [←hL1,←hL2] at hr'
 rw [←hL2] at hn2
 rw [←hL1]
 have HR:=hid hr';have HN:=hid hn2
 clear hr hr' hn2 hn hv1 hv2 hL1 hL2 e0 e1 e2 e3 hl
 go_enter Tryz.func131,Tryz.ntmps131
 go_wp2_with (at_builtin;refine wpList_append_run rfl _ _ _ rfl rfl rfl HR.out ?_)
 go_ret
 exact ⟨_,rfl,HN.out⟩
theorem run_str_of {w:World} {v:Value} {bs:List UInt8} (h:BytesAt w v bs):(convert 22 9 v).run Tryz.prog w=.ok (.string (toBA bs)) w:=by
 obtain ⟨ao,cap,rfl,hn,hs⟩:=h
 cases ao with
 | none=>
  obtain ⟨rfl,rfl⟩:=hn rfl
  exact run_convert_bytes_nil w 22 5 Tryz.underlying22 Tryz.underlying5 _ _ 9 Tryz.underlying9
 | some a=>
  exact run_convert_bytes_back w 22 9 5 a cap bs Tryz.underlying22 Tryz.underlying5 Tryz.underlying9 (fun j hj=>hs a rfl j _ (by rw [List.getElem?_map,List.getElem?_eq_getElem hj];rfl))
theorem toBA_eq (a b:List UInt8):((toBA a).toList==(toBA b).toList)=decide (a=b):=by
 rw [beq_toList]
 congr 1
 apply propext
 constructor
 ·intro h
  have:=congrArg (fun x:ByteArray=>x.data.toList) h
  simpa [toBA] using this
 ·rintro rfl;rfl
theorem equal_any {w:World} {v1 v2:Value} {b1 b2:List UInt8} (h1:BytesAt w v1 b1) (h2:BytesAt w v2 b2) :
  Calls Tryz.prog 76 #[v1,v2] w fun e w'=>e=.returned (.bool (decide (b1=b2)))∧w'=w:=by
 refine (Tryz.bytes_Equal_strs v1 v2 _ _ w (run_str_of h1) (run_str_of h2)).mono ?_
 rintro e w' ⟨rfl,rfl⟩
 exact ⟨by rw [toBA_eq],rfl⟩
theorem is_any {w:World} {v:Value} {b:List UInt8} (hv:BAt w v b) {a:Nat} (ha:a+4≤b.length) (hl:b.length≤140737488351232) {x:Nat} (hx:x<4294967296) :
  Calls Tryz.prog 134 #[v,.int .i64 a,.int .u32 x] w fun e w'=>e=.returned (.bool (decide ((b.drop a).take 4=lowB x)))∧Upd (fun _=>False) w w':=by
 have HV:=hid hv
 obtain ⟨ao,cap,rfl,h1,h2,h3,h4⟩:=hv
 obtain ⟨g,o,rfl⟩:∃g o,ao=some ⟨g,o,none⟩:=by
  obtain ⟨g,o,e,-⟩:=h4 0 (by omega)
  exact ⟨g,o,e⟩
 have Ka:=hid (HV.out.sub (lo:=a) (n:=4) ha)
 have hcur:=hid (show Upd (fun _=>False) w w.drew from (Upd.refl _ w).drew)
 have hac:a+4≤cap:=by omega
 have hlt:a<cap:=by omega
 have i0:(0:Int)≤(a:Int):=by omega
 have i1:(a:Int)≤(a:Int)+4:=by omega
 have i2:(a:Int)+4≤(cap:Int):=by omega
 have i3:IntKind.i64.wrap ((a:Int)+4)=(a:Int)+4:=by rw [IntKind.wrap_i64];omega
 have i4:¬cap=a:=by omega
 have i5:((a:Int)+4-(a:Int)).toNat=4:=by omega
 have i6:a+4-a=4:=by omega
 have i7:((a:Int)+4).toNat=a+4:=by omega
 have i8:¬cap-a=0:=by omega
 clear h3 h4
 go_enter Tryz.func134,Tryz.ntmps134
 go_upto_region 1 with fail
 go_region_held3 (fun V=>True)
  (trivial)
  (first
   | (go_at_call 131;refine (low_any (NewB.nil _) hx (by simp)).mono ?_;rintro e w3 ⟨v3,rfl,hn3⟩;have hcur:=hid (hcur.out.trans hn3.upd (fun _ _ e=>e)))
   | (go_at_call 76;refine (equal_any (Ka.out.keep hcur.out).bytes hn3.data.bytes).mono ?_;rintro e w4 ⟨rfl,hww⟩;obtain rfl:=hww.symm)
   | fail)
 all_goals
  have HC:=hid hcur.out
  go_wp2
  go_ret
  exact ⟨rfl,HC.out⟩
theorem NewB.keep {w w1 w2:World} {v:Value} {bs:List UInt8} (h:NewB w w1 v bs) (hu:Upd (fun _=>False) w1 w2):NewB w w2 v bs:=⟨h.data.upd hu (fun _ _ e=>e),h.new,h.upd.trans hu (fun _ _ e=>e)⟩
theorem sum_one {w:World} {v:Value} {bs:List UInt8} (hT:TabIn w) (hv:BAt w v bs) (hl:bs.length≤140737488351232) :
  Calls Tryz.prog 132 #[.slice (some ⟨w.heap.size,0,none⟩) 1 1] (w.alloc (.cells #[v] 22)) fun e w'=>e=.returned (.int .u32 (crc bs:Nat))∧Upd (fun _=>False) w w':=by
 have hu:Upd (fun _=>False) w (w.alloc (.cells #[v] 22)):=(Upd.refl _ _).alloc _
 refine (sum_any (hT.keep hu) (heap_alloc_new w _) (hv.keep hu) hl).mono ?_
 rintro e w' ⟨rfl,rfl⟩
 exact ⟨rfl,hu⟩
theorem made_new (w:World) (n:Nat) (hn:n≤1048576):∃wm,(Instr.makeSlice 22 (.int .i64 0) (.int .i64 ((n:Int)+12))).run Tryz.prog w=.ok (.slice (some ⟨w.heap.size,0,none⟩) 0 (n+12)) wm∧NewB w wm (.slice (some ⟨w.heap.size,0,none⟩) 0 (n+12)) []:=by
 obtain ⟨i0,hi,hz0,hz1,hz2⟩:=info_parts Tryz.infoByte
 have h:=run_make (P:=Tryz.prog) w 22 5 i0 _ Tryz.underlying22 hi hz0 .i64 .i64 0 ((n:Int)+12) (by omega) (by omega) (by rw [hz2];omega) (by omega)
 have e1:((n:Int)+12).toNat=n+12:=by omega
 rw [e1,hz1,show (0:Int).toNat=0 from rfl] at h
 refine ⟨_,h,⟨.inr ⟨w.heap.size,n+12,_,rfl,heap_alloc_new w _,Nat.zero_le _,?_,by unfold maxLen;omega,by simp⟩,fun k hk=>?_,(Upd.refl _ _).alloc _⟩⟩
 ·simp [size_madeCells]
 ·injection hk with hk
  have hk':w.heap.size=k:=hk
  omega
theorem frame_any {w:World} {v:Value} {b:List UInt8} (hT:TabIn w) (hv:BAt w v b) (hl:b.length≤1048576) :
  Calls Tryz.prog 71 #[v] w fun e w'=>∃v',e=.returned (.tuple #[v',.int .i64 0])∧NewB w w' v' (frameB b):=by
 have HV:=hid hv;have HT:=hid hT
 obtain ⟨n,hn⟩:∃n,n=b.length:=⟨_,rfl⟩
 obtain ⟨wm,hmk,hnm⟩:=made_new w n (by omega)
 obtain ⟨v1,w1,hr1,hn1⟩:=hnm.push (highB n) (by simp [highB]) 22
 rw [List.nil_append] at hn1
 obtain ⟨a1,c1,hv1,-,-⟩:=hn1.shape
 have e0:(((UInt8.ofNat n).toNat:Nat):Int)=(n:Int)%256:=by rw [UInt8.toNat_ofNat'];omega
 have e1:(((UInt8.ofNat (n / 256)).toNat:Nat):Int)=(n:Int) / 256%256:=by rw [UInt8.toNat_ofNat'];omega
 have e2:(((UInt8.ofNat (n / 65536)).toNat:Nat):Int)=(n:Int) / 65536:=by rw [UInt8.toNat_ofNat'];omega
 have e3:(((UInt8.ofNat (n / 16777216)).toNat:Nat):Int)=(n:Int) / 16777216:=by rw [UInt8.toNat_ofNat'];omega
 have hr1':(Builtin.append_ #[22,22] 22 #[.slice (some ⟨w.heap.size,0,none⟩) 0 (n+12),.slice (some ⟨wm.heap.size,0,none⟩) 4 4]).run Tryz.prog (wm.alloc (.cells #[.int .u8 (((UInt8.ofNat (n / 16777216)).toNat:Nat):Int),.int .u8 (((UInt8.ofNat (n / 65536)).toNat:Nat):Int),.int .u8 (((UInt8.ofNat (n / 256)).toNat:Nat):Int),.int .u8 (((UInt8.ofNat n).toNat:Nat):Int)] 5))=.ok v1 w1:=hr1
 rw [e0,e1,e2,e3,hv1] at hr1'
 rw [hv1] at hn1
 have hl4:(highB n).length=4:=rfl
 rw [hl4] at hr1' hn1
 have Kc:=hid hr1';have Kb:=hid hn1;have Ka:=hid hn
 obtain ⟨ao,cap,rfl,h1,h2,-,-⟩:=hv
 rw [←hn] at HV h1 hl⊢
 have hnl:¬(1048576:Int)<(n:Int):=by omega
 clear hr1 hr1' hn1 hv1 e0 e1 e2 e3 hnm hn hT hl4
 go_enter Tryz.func71,Tryz.ntmps71
 go_upto_region 5 with (at_builtin;refine wpList_append_run rfl _ _ _ rfl rfl rfl Kc.out ?_)
 have Kd:=hid (sum_one (HT.out.keep Kb.out.upd) Kb.out.data.bat (by simp [highB]))
 have hl4:(highB n).length=4:=rfl
 go_wp2_with fail
 refine Kd.out.mono ?_
 rintro e w2 ⟨rfl,hu2⟩
 have Ke:=hid (low_any (Kb.out.keep hu2) (crc_lt (highB n)) (by simp [highB]))
 clear hu2 hmk
 go_wp2_with fail
 refine Ke.out.mono ?_
 rintro e w3 ⟨v3,rfl,hn3⟩
 obtain ⟨a3,c3,hv3,-,-⟩:=hn3.shape
 have hl8:(highB n++lowB (crc (highB n))).length=8:=rfl
 rw [hl8] at hv3
 subst hv3
 obtain ⟨v4,w4,hr4,hn4⟩:=hn3.join (HV.out.keep hn3.upd) (by rw [hl8,←Ka.out];omega) 22
 obtain ⟨a4,c4,hv4,-,-⟩:=hn4.shape
 rw [hv4] at hr4 hn4
 obtain ⟨L4,hL4⟩:∃L,L=(highB n++lowB (crc (highB n))++b).length:=⟨_,rfl⟩
 have hL4e:L4=8+n:=by rw [hL4,List.length_append,hl8,Ka.out]
 rw [←hL4] at hr4 hn4
 have Kf:=hid hr4;have Kg:=hid hn4
 have Kh:=hid (sum_one (HT.out.keep hn4.upd) (HV.out.keep hn4.upd) (by rw [←Ka.out];omega))
 clear hr4 hn4 hn3 hv4 hL4 hl8 hl4
 have Kk:=hid hL4e
 clear hL4e
 go_upto_region 6 with (at_builtin;refine wpList_append_run rfl _ _ _ rfl rfl rfl Kf.out ?_)
 go_wp2_with fail
 refine Kh.out.mono ?_
 rintro e w5 ⟨rfl,hu5⟩
 have Ki:=hid (low_any (Kg.out.keep hu5) (crc_lt b) (by simp [highB,lowB];have:=Ka.out;omega))
 clear hu5
 go_wp2_with fail
 refine Ki.out.mono ?_
 rintro e w6 ⟨v6,rfl,hn6⟩
 have Kj:=hid hn6
 clear hn6
 go_wp2
 go_ret2
 refine ⟨v6,rfl,?_⟩
 have h:=Kj.out
 unfold frameB
 rw [←Ka.out]
 exact h
theorem or_i64 (i:Nat) (x y:Int) (h0:0≤x) (h1:x%2^i=0) (h2:x<4294967296) (h3:0≤y) (h4:y<2^i) (hi:y<4294967296):bits .or .i64 x y=x+y:=
 bits_join .i64 63 (by decide) (fun n h1 h2=>by rw [IntKind.wrap_i64];omega) i x y h0 h1 (by omega) h3 h4 (by omega)
theorem num4_or {c0 c1 c2 c3:Nat} (h0:c0<256) (h1:c1<256) (h2:c2<256) (h3:c3<256) :
  bits .or .i64 (bits .or .i64 (bits .or .i64 ((c0:Int)*16777216) ((c1:Int)*65536)) ((c2:Int)*256)) (c3:Int)=((((c0*256+c1)*256+c2)*256+c3:Nat):Int):=by
 have s1:bits .or .i64 ((c0:Int)*16777216) ((c1:Int)*65536)=(c0:Int)*16777216+(c1:Int)*65536:=or_i64 24 _ _ (by omega) (by omega) (by omega) (by omega) (by omega) (by omega)
 have s2:bits .or .i64 ((c0:Int)*16777216+(c1:Int)*65536) ((c2:Int)*256)=(c0:Int)*16777216+(c1:Int)*65536+(c2:Int)*256:=or_i64 16 _ _ (by omega) (by omega) (by omega) (by omega) (by omega) (by omega)
 have s3:bits .or .i64 ((c0:Int)*16777216+(c1:Int)*65536+(c2:Int)*256) (c3:Int)=(c0:Int)*16777216+(c1:Int)*65536+(c2:Int)*256+(c3:Int):=or_i64 8 _ _ (by omega) (by omega) (by omega) (by omega) (by omega) (by omega)
 rw [s1,s2,s3]
 omega
theorem num4_lt {N c0 c1 c2 c3:Nat} (h0:c0<256) (h1:c1<256) (h2:c2<256) (h3:c3<256) (h:N=((c0*256+c1)*256+c2)*256+c3):N<4294967296:=by omega
theorem BAt.at_ {w:World} {g o n cap:Nat} {bs:List UInt8} (h:BAt w (.slice (some ⟨g,o,none⟩) n cap) bs) {j:Nat} (hj:j<bs.length):w.cell? ⟨g,o+j,none⟩=some (.int .u8 ((bs[j].toNat:Nat):Int))∧g<w.heap.size:=by
 obtain ⟨ao,cp,e,-,-,-,h4⟩:=h
 injection e with e1 _ _
 subst e1
 obtain ⟨g',o',e,hg,hc⟩:=h4 j hj
 injection e with e
 injection e with e1 e2
 subst e1 e2
 exact ⟨hc,hg⟩
theorem num4_at {b:List UInt8} {a:Nat} (h:a+4≤b.length):num4 ((b.drop a).take 4)=(((b[a]'(by omega)).toNat*256+(b[a+1]'(by omega)).toNat)*256+(b[a+2]'(by omega)).toNat)*256+(b[a+3]'(by omega)).toNat:=by
 have e:(b.drop a).take 4=[b[a]'(by omega),b[a+1]'(by omega),b[a+2]'(by omega),b[a+3]'(by omega)]:=by
  apply List.ext_getElem
  ·simp;omega
  ·intro i h1 h2
   simp only [List.length_cons,List.length_nil] at h2
   rw [List.getElem_take,List.getElem_drop]
   match i,h2 with
   | 0,_=>rfl
   | 1,_=>rfl
   | 2,_=>rfl
   | 3,_=>rfl
 rw [e]
 simp only [num4,List.foldl_cons,List.foldl_nil]
 omega
theorem readFrame_any {w:World} {v:Value} {b:List UInt8} (hT:TabIn w) (hv:BAt w v b) {a:Nat} (ha:a≤b.length) (hl:b.length≤140737488351232) :
  Calls Tryz.prog 73 #[v,.int .i64 a] w fun e w'=>∃v',e=.returned (.tuple #[v',.int .i64 ((readFr b a).2.1:Nat),.int .i64 (readFr b a).2.2])∧NewB w w' v' (readFr b a).1:=by
 have HV:=hid hv;have HT:=hid hT
 have Ke:=hid (outside_in hv ha)
 obtain ⟨R,hR⟩:∃R,R=readFr b a:=⟨_,rfl⟩
 rw [←hR]
 unfold readFr at hR
 obtain ⟨ao,cap,rfl,h1,h2,h3,h4⟩:=hv
 have HC:=hid h4
 have HR:=hid hR
 clear hR h3 h4 hT
 go_enter Tryz.func73,Tryz.ntmps73
 go_wp2_with fail
 refine Ke.out.mono ?_
 rintro e w' ⟨rfl,hww⟩
 obtain rfl:=hww.symm
 by_cases h8:b.length-a<8
 ·have hR:=HR.out
  rw [if_pos h8] at hR
  have HF:=hid hR
  have h8i:(b.length:Int)-(a:Int)<8:=by omega
  clear hR h8
  go_wp2
  go_ret3
  exact ⟨.slice none 0 0,by rw [HF.out];rfl,by rw [HF.out];exact NewB.nil _⟩
 ·have hR:=HR.out
  rw [if_neg h8] at hR
  have Kf:=hid hR
  have h8i:¬(b.length:Int)-(a:Int)<8:=by omega
  have ha8:a+8≤b.length:=by omega
  obtain ⟨g,o,rfl⟩:∃g o,ao=some ⟨g,o,none⟩:=by
   obtain ⟨g,o,e,-⟩:=HC.out a (by omega)
   exact ⟨g,o,e⟩
  have Kg:=hid (HV.out.sub (lo:=a) (n:=4) (by omega))
  have Kl:=hid (sum_one HT.out Kg.out (by simp;omega))
  have i0:(0:Int)≤(a:Int):=by omega
  have i1:(a:Int)≤(a:Int)+4:=by omega
  have i2:(a:Int)+4≤(cap:Int):=by omega
  have i4:¬cap=a:=by omega
  have i6:a+4-a=4:=by omega
  have i8:¬cap-a=0:=by omega
  clear hR h8
  go_wp2_with fail
  refine Kl.out.mono ?_
  rintro e w1 ⟨rfl,hu1⟩
  have his:=is_any (HV.out.keep hu1) (a:=a+4) (by omega) (by omega) (crc_lt ((b.drop a).take 4))
  rw [show ((a+4:Nat):Int)=(a:Int)+4 from by omega] at his
  have Km:=hid his;have Kn:=hid hu1
  clear hu1 his
  go_wp2_with fail
  refine Km.out.mono ?_
  rintro e w2 ⟨rfl,hu2⟩
  have Kd:=hid (Kn.out.trans hu2 (fun _ _ e=>e))
  clear hu2
  by_cases hs:(b.drop (a+4)).take 4=lowB (crc ((b.drop a).take 4))
  ·have hsd:decide ((b.drop (a+4)).take 4=lowB (crc ((b.drop a).take 4)))=true:=by simpa using hs
   rw [hsd]
   have hR:=Kf.out
   rw [if_neg (by simpa using hs)] at hR
   have Kb:=hid (HV.out.keep Kd.out)
   obtain ⟨d0,hg⟩:=Kb.out.at_ (j:=a) (by omega)
   obtain ⟨d1,-⟩:=Kb.out.at_ (j:=a+1) (by omega)
   obtain ⟨d2,-⟩:=Kb.out.at_ (j:=a+2) (by omega)
   obtain ⟨d3,-⟩:=Kb.out.at_ (j:=a+3) (by omega)
   have hnum:=num4_at (b:=b) (a:=a) (by omega)
   have l0:(b[a]'(by omega)).toNat<256:=(b[a]'(by omega)).toNat_lt
   have l1:(b[a+1]'(by omega)).toNat<256:=(b[a+1]'(by omega)).toNat_lt
   have l2:(b[a+2]'(by omega)).toNat<256:=(b[a+2]'(by omega)).toNat_lt
   have l3:(b[a+3]'(by omega)).toNat<256:=(b[a+3]'(by omega)).toNat_lt
   generalize (b[a]'(by omega)).toNat=c0 at d0 hnum l0
   generalize (b[a+1]'(by omega)).toNat=c1 at d1 hnum l1
   generalize (b[a+2]'(by omega)).toNat=c2 at d2 hnum l2
   generalize (b[a+3]'(by omega)).toNat=c3 at d3 hnum l3
   obtain ⟨N,hN⟩:∃N,N=num4 ((b.drop a).take 4):=⟨_,rfl⟩
   rw [←hN] at hR hnum
   have hor:=num4_or l0 l1 l2 l3
   rw [←hnum] at hor
   have Ko:=hid hor;have Kv:=hid hnum
   have hNl:N<4294967296:=num4_lt l0 l1 l2 l3 hnum
   have Kh:=hid hR
   clear hR hN hs hsd hor hnum i1 i2 i4 i6 i8
   go_upto_region 7 with fail
   go_quiet (fail)
   revert nq
   intro q
   go_upto_region 8 with fail
   try rw [Ko.out]
   have Ka:=hid (show Upd (fun _=>False) w (w2.drewN q) from Kd.out.drewN q)
   generalize w2.drewN q=w3 at Ka⊢
   clear d0 d1 d2 d3 hg Kb
   by_cases hbig:1048576<N
   ·have hR:=Kh.out
    rw [if_pos hbig] at hR
    have HF:=hid hR
    have hbi:(1048576:Int)<(N:Int):=by omega
    clear hR hbig
    go_wp2
    go_ret3
    exact ⟨.slice none 0 0,by rw [HF.out];rfl,by rw [HF.out];exact ⟨.inl ⟨rfl,rfl⟩,fun k e=>(by cases e),Ka.out⟩⟩
   ·have hR:=Kh.out
    rw [if_neg hbig] at hR
    have hbi:¬(1048576:Int)<(N:Int):=by omega
    by_cases hto:b.length-(a+8)<N+4
    ·rw [if_pos hto] at hR
     have HF:=hid hR
     have hti:(b.length:Int)-((a:Int)+8)<(N:Int)+4:=by omega
     clear hR hbig hto
     go_wp2
     go_ret3
     exact ⟨.slice none 0 0,by rw [HF.out];rfl,by rw [HF.out];exact ⟨.inl ⟨rfl,rfl⟩,fun k e=>(by cases e),Ka.out⟩⟩
    ·rw [if_neg hto] at hR
     have hti:¬(b.length:Int)-((a:Int)+8)<(N:Int)+4:=by omega
     have hfit:a+8+N+4≤b.length:=by omega
     have Kp:=hid (HV.out.keep Ka.out)
     have Kq:=hid (Kp.out.sub (lo:=a+8) (n:=N) (by omega))
     have Kr:=hid (sum_one (HT.out.keep Ka.out) Kq.out (by simp;omega))
     have i0:(0:Int)≤(a:Int)+8:=by omega
     have i1:(a:Int)+8≤(a:Int)+8+(N:Int):=by omega
     have i2:(a:Int)+8+(N:Int)≤(cap:Int):=by omega
     have i4:¬cap=a+8:=by omega
     have i8:¬cap-(a+8)=0:=by omega
     have Ki:=hid hR
     clear hR hbig hto
     go_wp2_with fail
     refine Kr.out.mono ?_
     rintro e w4 ⟨rfl,hu4⟩
     have Kj:=hid (Ka.out.trans hu4 (fun _ _ e=>e))
     have his:=is_any (HV.out.keep Kj.out) (a:=a+8+N) (by omega) (by omega) (crc_lt ((b.drop (a+8)).take N))
     rw [show ((a+8+N:Nat):Int)=(a:Int)+8+(N:Int) from by omega] at his
     have Kk:=hid his
     clear hu4 his
     go_wp2_with fail
     refine Kk.out.mono ?_
     rintro e w5 ⟨rfl,hu5⟩
     have Kc:=hid (Kj.out.trans hu5 (fun _ _ e=>e))
     clear hu5
     by_cases hs2:(b.drop (a+8+N)).take 4=lowB (crc ((b.drop (a+8)).take N))
     ·have hsd:decide ((b.drop (a+8+N)).take 4=lowB (crc ((b.drop (a+8)).take N)))=true:=by simpa using hs2
      rw [hsd]
      have hR:=Ki.out
      rw [if_neg (by simpa using hs2)] at hR
      have HF:=hid hR
      have Ks:=hid (HV.out.keep Kc.out)
      have Kt:=hid (clone_any ((Ks.out.sub (lo:=a+8) (n:=N) (by omega)).bytes) (by simp;omega))
      clear hR hs2 hsd
      go_wp2_with fail
      refine Kt.out.mono ?_
      rintro e w6 ⟨v6,rfl,hd,hnew,hbel⟩
      have hs05:=Kc.out.size
      have Ku:=hid (show NewB w w6 v6 R.1 from by rw [HF.out];exact ⟨hd,fun k e=>Nat.le_trans hs05 (hnew k e),Kc.out.trans (Upd.of_below (S:=fun _=>False) hbel) (fun _ _ e=>e)⟩)
      have HE:=hid (show ((R.2.1:Nat):Int)=(a:Int)+8+(N:Int)+4∧R.2.2=0 from by rw [HF.out];exact ⟨by simp only [];omega,rfl⟩)
      clear hd hnew hbel hs05
      go_wp2
      go_ret3
      exact ⟨v6,by rw [HE.out.1,HE.out.2];rfl,Ku.out⟩
     ·have hsd:decide ((b.drop (a+8+N)).take 4=lowB (crc ((b.drop (a+8)).take N)))=false:=by simpa using hs2
      rw [hsd]
      have hR:=Ki.out
      rw [if_pos hs2] at hR
      have HF:=hid hR
      clear hR hs2 hsd
      go_wp2
      go_ret3
      exact ⟨.slice none 0 0,by rw [HF.out];rfl,by rw [HF.out];exact ⟨.inl ⟨rfl,rfl⟩,fun k e=>(by cases e),Kc.out⟩⟩
  ·have hsd:decide ((b.drop (a+4)).take 4=lowB (crc ((b.drop a).take 4)))=false:=by simpa using hs
   rw [hsd]
   have hR:=Kf.out
   rw [if_pos hs] at hR
   have HF:=hid hR
   clear hR hs hsd
   go_wp2
   go_ret3
   exact ⟨.slice none 0 0,by rw [HF.out];rfl,by rw [HF.out];exact ⟨.inl ⟨rfl,rfl⟩,fun k e=>(by cases e),Kd.out⟩⟩
theorem made_at (w:World) (m:Nat) (e:Int) (he:e=m) (hm:m≤140737488351232):∃wm,(Instr.makeSlice 22 (.int .i64 0) (.int .i64 e)).run Tryz.prog w=.ok (.slice (some ⟨w.heap.size,0,none⟩) 0 m) wm∧NewB w wm (.slice (some ⟨w.heap.size,0,none⟩) 0 m) []:=by
 subst he
 obtain ⟨i0,hi,hz0,hz1,hz2⟩:=info_parts Tryz.infoByte
 have h:=run_make (P:=Tryz.prog) w 22 5 i0 _ Tryz.underlying22 hi hz0 .i64 .i64 0 (m:Int) (by omega) (by omega) (by rw [hz2];omega) (by omega)
 have e1:((m:Int)).toNat=m:=by omega
 rw [e1,hz1,show (0:Int).toNat=0 from rfl] at h
 refine ⟨_,h,⟨.inr ⟨w.heap.size,m,_,rfl,heap_alloc_new w _,Nat.zero_le _,?_,by unfold maxLen;omega,by simp⟩,fun k hk=>?_,(Upd.refl _ _).alloc _⟩⟩
 ·simp [size_madeCells]
 ·injection hk with hk
  have hk':w.heap.size=k:=hk
  omega
theorem BAt.cell {w:World} {ao:Option Addr} {n cap:Nat} {bs:List UInt8} (h:BAt w (.slice ao n cap) bs) {j:Nat} (hj:j<bs.length):∃g o,ao=some ⟨g,o,none⟩∧g<w.heap.size∧w.cell? ⟨g,o+j,none⟩=some (.int .u8 ((bs[j].toNat:Nat):Int)):=by
 obtain ⟨ao',cp,e,-,-,-,h4⟩:=h
 injection e with e1 _ _
 subst e1
 exact h4 j hj
theorem NewB.put {w w1:World} {v:Value} {bs:List UInt8} (h:NewB w w1 v bs) (ms:List UInt8) (vals:Array Value) (k:Nat) (hv:(ms.map byteV).toArray=vals) (hk:ms.length=k) (hl:bs.length+k≤140737488355328) :
  ∃ao L cap w2,(Builtin.append_ #[22,22] 22 #[v,.slice (some ⟨w1.heap.size,0,none⟩) k k]).run Tryz.prog (w1.alloc (.cells vals 5))=.ok (.slice ao L cap) w2∧NewB w w2 (.slice ao L cap) (bs++ms):=by
 subst hv hk
 obtain ⟨v',w2,hr,hn⟩:=h.push ms hl 22
 obtain ⟨ao,cap,rfl,-,-⟩:=hn.shape
 exact ⟨ao,_,cap,w2,hr,hn⟩
theorem ordered_any {w:World} {v:Value} {b:List UInt8} (hv:BAt w v b) (hl:b.length≤100000000) :
  Calls Tryz.prog 226 #[v] w fun e w'=>∃v',e=.returned v'∧NewB w w' v' (ordB b):=by
 have HV:=hid hv
 obtain ⟨ao0,cap0,rfl,h1,h2,-,-⟩:=hv
 obtain ⟨n,hn⟩:∃n,n=b.length:=⟨_,rfl⟩
 obtain ⟨wm,hmk,hnm⟩:=made_at w (n+2) ((n:Int)+2) (by omega) (by omega)
 rw [←hn] at h1 hl⊢
 have Kc:=hid hnm;have HN:=hid hn
 clear hnm hn
 go_enter Tryz.func226,Tryz.ntmps226
 go_wp2
 go_loopw [12,3] (fun iv ov wr=>∃k:Nat,k≤n∧iv=.int .i64 k∧∃ao L cap,ov=.slice ao L cap∧NewB w wr (.slice ao L cap) (ordT (b.take k))) (fun iv _ _=>n-(intOf iv).toNat)
 case atStart=>exact ⟨0,Nat.zero_le _,rfl,_,_,_,rfl,Kc.out⟩
 case round=>
  obtain ⟨k,hk,rfl,ao,L,cap,rfl,hnew⟩:=hrel
  have hol:=ordT_len (b.take k)
  have htl:(b.take k).length≤k:=by simp;omega
  by_cases hlt:k<n
  ·have hkb:k<b.length:=by rw [←HN.out];exact hlt
   obtain ⟨g,o,rfl,hg,d0⟩:=(HV.out.keep hnew.upd).cell hkb
   have hstep:=ordT_step b k hkb
   generalize b[k]=c at d0 hstep
   have hc8:=c.toNat_lt
   obtain ⟨ao1,L1,cap1,w1,hr1,hn1⟩:=hnew.put [c] #[.int .u8 (c.toNat:Int)] 1 rfl rfl (by omega)
   by_cases hz:c.toNat=0
   ·rw [if_pos hz] at hstep
    have hzi:((c.toNat:Int)==0)=true:=by simp;omega
    obtain ⟨ao2,L2,cap2,w2,hr2,hn2⟩:=hn1.put [255] #[.int .u8 255] 1 rfl rfl (by simp;omega)
    have Ka:=hid hr1;have Kd:=hid hr2;have Ke:=hid hn2;have Kb:=hid hstep
    clear hr1 hr2 hn1 hn2 hnew hstep hol htl hmk hz
    go_upto_region 6 with (at_builtin;refine wpList_append_run rfl _ _ _ rfl rfl rfl Ka.out ?_)
    go_wp2_with (at_builtin;refine wpList_append_run rfl _ _ _ rfl rfl rfl Kd.out ?_)
    go_roundw
    case rel=>
     refine ⟨k+1,by omega,by go_num,ao2,L2,cap2,rfl,?_⟩
     have h:=Ke.out
     rw [Kb.out]
     rw [List.append_assoc] at h
     exact h
    case measure=>simp [intOf];omega
   ·rw [if_neg hz] at hstep
    have hzi:((c.toNat:Int)==0)=false:=by simp;omega
    have Ka:=hid hr1;have Kf:=hid hn1;have Kb:=hid hstep
    clear hr1 hn1 hnew hstep hol htl hmk hz
    go_wp2_with (at_builtin;refine wpList_append_run rfl _ _ _ rfl rfl rfl Ka.out ?_)
    go_roundw
    case rel=>
     refine ⟨k+1,by omega,by go_num,ao1,L1,cap1,rfl,?_⟩
     rw [Kb.out]
     exact Kf.out
    case measure=>simp [intOf];omega
  ·obtain rfl:k=n:=by omega
   obtain ⟨ao1,L1,cap1,w1,hr1,hn1⟩:=hnew.put [0,1] #[.int .u8 0,.int .u8 1] 2 rfl rfl (by omega)
   have hfin:NewB w w1 (.slice ao1 L1 cap1) (ordB b):=by
    unfold ordB
    rw [show b=b.take k from by rw [HN.out,List.take_length]]
    exact hn1
   have Ka:=hid hr1;have HF:=hid hfin
   clear hr1 hn1 hnew hfin hol htl hmk
   go_wp2_with (at_builtin;refine wpList_append_run rfl _ _ _ rfl rfl rfl Ka.out ?_)
   go_ret
   exact ⟨_,rfl,HF.out⟩
theorem readOrdered_any {w:World} {v:Value} {b:List UInt8} (hv:BAt w v b) {a:Nat} (ha:a≤b.length) (hl:b.length≤140737488351232) :
  Calls Tryz.prog 223 #[v,.int .i64 a] w fun e w'=>∃v',e=.returned (.tuple #[v',.int .i64 ((readO b a).2.1:Nat),.int .i64 (readO b a).2.2])∧NewB w w' v' (readO b a).1:=by
 have HV:=hid hv
 have Kc:=hid (outside_in hv ha)
 obtain ⟨R,hR⟩:∃R,R=readO b a:=⟨_,rfl⟩
 rw [←hR]
 have HR:=hid hR
 clear hR
 obtain ⟨ao0,cap0,rfl,h1,h2,-,-⟩:=hv
 go_enter Tryz.func223,Tryz.ntmps223
 go_wp2_with fail
 refine Kc.out.mono ?_
 rintro e w' ⟨rfl,hww⟩
 obtain rfl:=hww.symm
 go_wp2
 go_loopw [1,7] (fun av ov wr=>∃p:Nat,p≤b.length∧av=.int .i64 p∧∃acc ao L cap,ov=.slice ao L cap∧NewB w wr (.slice ao L cap) acc∧acc.length≤p∧R=ro (b.drop p) p acc) (fun av _ _=>b.length-(intOf av).toNat)
 case atStart=>exact ⟨a,ha,rfl,[],_,_,_,rfl,NewB.nil _,Nat.zero_le _,HR.out⟩
 case round=>
  obtain ⟨p,hp,rfl,acc,ao,L,cap,rfl,hnew,hal,he⟩:=hrel
  by_cases hend:p<b.length
  ·obtain ⟨g,o,rfl,hg,d0⟩:=(HV.out.keep hnew.upd).cell hend
   have hdrop:b.drop p=b[p]'hend :: b.drop (p+1):=List.drop_eq_getElem_cons hend
   rw [hdrop] at he
   generalize b[p]'hend=c at d0 he
   have hc8:=c.toNat_lt
   clear hdrop
   by_cases hz:c.toNat=0
   ·have hzi:((c.toNat:Int)==0)=true:=by simp;omega
    by_cases hend2:p+1<b.length
    ·obtain ⟨g',o',eg,-,d1⟩:=(HV.out.keep hnew.upd).cell hend2
     injection eg with eg
     injection eg with eg1 eg2
     subst eg1 eg2
     have hdrop:b.drop (p+1)=b[p+1]'hend2 :: b.drop (p+1+1):=List.drop_eq_getElem_cons hend2
     rw [hdrop] at he
     generalize b[p+1]'hend2=d at d1 he
     have hd8:=d.toNat_lt
     rw [ro,if_neg (by simpa using hz)] at he
     have hne:((p:Int)+1==(b.length:Int))=false:=by simp;omega
     clear hdrop
     by_cases h1d:d.toNat=1
     ·rw [if_pos h1d] at he
      have h1i:((d.toNat:Int)==1)=true:=by simp;omega
      have HF:=hid he;have Kd:=hid hnew
      clear he hnew hz h1d
      go_wp2
      go_ret3
      exact ⟨.slice ao L cap,by rw [HF.out];rfl,by rw [HF.out];exact Kd.out⟩
     ·rw [if_neg h1d] at he
      have h1i:((d.toNat:Int)==1)=false:=by simp;omega
      by_cases h255:d.toNat=255
      ·rw [if_pos h255] at he
       have h255i:((d.toNat:Int)==255)=true:=by simp;omega
       obtain ⟨ao1,L1,cap1,w1,hr1,hn1⟩:=hnew.put [c] #[.int .u8 0] 1 (by simp [byteV,hz]) rfl (by omega)
       have HE:=hid he;have Ka:=hid hr1;have Kb:=hid hn1
       clear he hnew hz h1d h255 hr1 hn1
       go_wp2_with (at_builtin;refine wpList_append_run rfl _ _ _ rfl rfl rfl Ka.out ?_)
       go_roundw
       case rel=>exact ⟨p+2,by omega,by go_num,acc ++ [c],ao1,L1,cap1,rfl,Kb.out,by simp;omega,HE.out⟩
       case measure=>simp [intOf];omega
      ·rw [if_neg h255] at he
       have h255i:((d.toNat:Int)==255)=false:=by simp;omega
       have HF:=hid he;have HU:=hid hnew.upd
       clear he hnew hz h1d h255
       go_wp2
       go_ret3
       exact ⟨.slice none 0 0,by rw [HF.out];rfl,by rw [HF.out];exact (NewB.nil _).keep HU.out⟩
    ·have hdn:b.drop (p+1)=[]:=List.drop_eq_nil_of_le (by omega)
     rw [hdn] at he
     have hnei:((p:Int)+1==(b.length:Int))=true:=by simp;omega
     have HF:=hid he;have HU:=hid hnew.upd
     clear he hnew hz hdn
     go_wp2
     go_ret3
     exact ⟨.slice none 0 0,by rw [HF.out];rfl,by rw [HF.out];exact (NewB.nil _).keep HU.out⟩
   ·have hzi:((c.toNat:Int)==0)=false:=by simp;omega
    have hnx:R=ro (b.drop (p+1)) (p+1) (acc ++ [c]):=by
     rw [he]
     cases hq:b.drop (p+1) with
     | nil=>rfl
     | cons d ds=>rw [ro,if_pos hz]
    obtain ⟨ao1,L1,cap1,w1,hr1,hn1⟩:=hnew.put [c] #[.int .u8 (c.toNat:Int)] 1 rfl rfl (by omega)
    have HE:=hid hnx;have Ka:=hid hr1;have Kb:=hid hn1
    clear he hnx hnew hz hr1 hn1
    go_wp2_with (at_builtin;refine wpList_append_run rfl _ _ _ rfl rfl rfl Ka.out ?_)
    go_roundw
    case rel=>exact ⟨p+1,by omega,by go_num,acc ++ [c],ao1,L1,cap1,rfl,Kb.out,by simp;omega,HE.out⟩
    case measure=>simp [intOf];omega
  ·have hdn:b.drop p=[]:=List.drop_eq_nil_of_le (by omega)
   rw [hdn] at he
   have hge:¬(p:Int)<(b.length:Int):=by omega
   have HF:=hid he;have HU:=hid hnew.upd
   clear he hnew hdn
   go_wp2
   go_ret3
   exact ⟨.slice none 0 0,by rw [HF.out];rfl,by rw [HF.out];exact (NewB.nil _).keep HU.out⟩
theorem made_eight (w:World):∃wm,(Instr.makeSlice 22 (.int .i64 8) (.int .i64 8)).run Tryz.prog w=.ok (.slice (some ⟨w.heap.size,0,none⟩) 8 8) wm∧Upd (fun _=>False) w wm∧wm.heap[w.heap.size]? = some (.cells ((List.replicate 8 (0:UInt8)).map byteV).toArray 5 (0,0)):=by
 obtain ⟨i0,hi,hz0,hz1,hz2⟩:=info_parts Tryz.infoByte
 have h:=run_make (P:=Tryz.prog) w 22 5 i0 _ Tryz.underlying22 hi hz0 .i64 .i64 8 8 (by omega) (by omega) (by rw [hz2];omega) (by omega)
 rw [hz1] at h
 rw [show madeCells (Value.int IntKind.u8 0).cells (Int.toNat 8*1)=((List.replicate 8 (0:UInt8)).map byteV).toArray from by kernel_rfl] at h
 exact ⟨_,h,(Upd.refl _ _).alloc _,heap_alloc_new w _⟩
def eightAt (n m:Nat):List UInt8:=List.replicate m 0++(eightB n).drop m
theorem eightAt_step (n i:Nat) (hi:i<8):(eightAt n (i+1)).set i (UInt8.ofNat (n / 256^(7-i)))=eightAt n i:=by
 match i,hi with
 | 0,_=>rfl
 | 1,_=>rfl
 | 2,_=>rfl
 | 3,_=>rfl
 | 4,_=>rfl
 | 5,_=>rfl
 | 6,_=>rfl
 | 7,_=>simp [eightAt,eightB,List.replicate]
theorem eightAt_len (n m:Nat) (h:m≤8):(eightAt n m).length=8:=by unfold eightAt;rw [List.length_append,List.length_drop,List.length_replicate,eightB_len];omega
theorem cells_bytes {w:World} {q:Nat} {l:List UInt8} (h:w.heap[q]? = some (.cells (l.map byteV).toArray 5 (0,0))) {j:Nat} (hj:j<l.length):w.cell? ⟨q,j,none⟩=some (.int .u8 ((l[j].toNat:Nat):Int)):=by
 rw [cell_of_row w q j _ _ _ h]
 simp [hj,byteV]
theorem set_bytes (l:List UInt8) (i:Nat) (c:UInt8):((l.map byteV).toArray).setIfInBounds i (.int .u8 (c.toNat:Int))=((l.set i c).map byteV).toArray:=by
 rw [List.map_set]
 simp [byteV]
theorem rising_any {w:World} {n:Nat} (hn:n<9223372036854775808) :
  Calls Tryz.prog 235 #[.int .i64 n] w fun e w'=>∃v',e=.returned (.tuple #[v',.int .i64 0])∧NewB w w' v' (eightB n):=by
 obtain ⟨wm,hmk,hum,hbm⟩:=made_eight w
 have Ka:=hid hum;have Kb:=hid hbm
 have hsz:=hum.size
 have hq:w.heap.size<wm.heap.size:=lt_of_heap hbm
 have h0:¬(n:Int)<0:=by omega
 clear hum hbm
 go_enter Tryz.func235,Tryz.ntmps235
 go_wp2
 go_loopw [0,5] (fun nv iv wr=>∃m:Nat,m≤8∧iv=.int .i64 ((m:Int)-1)∧∃x:Nat,nv=.int .i64 x∧x<9223372036854775808∧x=n / 256^(8-m)∧Upd (fun _=>False) w wr∧wr.heap[w.heap.size]? = some (.cells ((eightAt n m).map byteV).toArray 5 (0,0))) (fun _ iv _=>(intOf iv+1).toNat)
 case atStart=>exact ⟨8,by omega,rfl,n,rfl,hn,by simp,Ka.out,Kb.out⟩
 case round=>
  obtain ⟨m,hm,rfl,x,rfl,hx,hxe,hu,hb⟩:=hrel
  have hsr:=hu.size
  have hqr:w.heap.size<wr.heap.size:=lt_of_heap hb
  rcases m with _|i
  ·have e0:(((0:Nat):Int)-1) = -1:=by omega
   have hfin:NewB w wr (.slice (some ⟨w.heap.size,0,none⟩) 8 8) (eightB n):=⟨.inr ⟨w.heap.size,8,_,rfl,hb,by simp [eightB],by simp [eightAt_len],by unfold maxLen;omega,by simp [eightAt];rfl⟩,fun k hk=>(by injection hk with hk;have hk':w.heap.size=k:=hk;omega),hu⟩
   have HF:=hid hfin
   clear hfin hu hb hxe hmk
   rw [e0]
   go_wp2
   go_ret2
   exact ⟨_,rfl,HF.out⟩
  ·have e1:(((i+1:Nat):Int)-1)=(i:Int):=by omega
   rw [e1]
   have d0:=cells_bytes hb (j:=i) (by rw [eightAt_len _ _ hm];omega)
   have hge:(0:Int)≤(i:Int):=by omega
   have fz:=frozen_of_row wr w.heap.size i _ _ hb
   have hi8:i<8:=by omega
   have hb2:=heap_setCell_at wr w.heap.size i _ _ (.int .u8 ((UInt8.ofNat x).toNat:Int)) hb
   rw [set_bytes,hxe,show 8-(i+1)=7-i from by omega,eightAt_step n i hi8,show 7-i=8-(i+1) from by omega] at hb2
   have hw8:(((UInt8.ofNat x).toNat:Nat):Int)=(x:Int)%256:=by rw [UInt8.toNat_ofNat'];omega
   rw [←hxe,hw8] at hb2
   have hu2:Upd (fun _=>False) w (wr.setCell ⟨w.heap.size,i,none⟩ (.int .u8 ((x:Int)%256))):=hu.setCell (fun e=>absurd e (by show ¬w.heap.size<w.heap.size;omega)) _
   have hxn:x / 256=n / 256^(8-i):=by
    rw [hxe,Nat.div_div_eq_div_mul]
    congr 1
    rw [show 8-i=(8-(i+1))+1 from by omega,Nat.pow_succ]
   have Kc:=hid hb2;have Kd:=hid hu2;have Ke:=hid hxn
   clear hb hb2 hu hu2 hxe hxn hw8 hmk
   generalize ((eightAt n (i+1))[i]'(by rw [eightAt_len _ _ hm];omega)).toNat=c0 at d0
   go_wp2
   go_roundw
   case rel=>exact ⟨i,by omega,by go_num,x / 256,by go_num,by omega,Ke.out,Kd.out,Kc.out⟩
   case measure=>simp [intOf]
theorem falling_any {w:World} {n:Nat} (hn:n≤9223372036854775807) :
  Calls Tryz.prog 228 #[.int .i64 n] w fun e w'=>∃v',e=.returned (.tuple #[v',.int .i64 0])∧NewB w w' v' (eightB (9223372036854775807-n)):=by
 have HR:=hid (rising_any (w:=w) (n:=9223372036854775807-n) (by omega))
 have h0:¬(n:Int)<0:=by omega
 have e1:(((9223372036854775807-n:Nat)):Int)=9223372036854775807-(n:Int):=by omega
 rw [e1] at HR
 clear e1
 go_enter Tryz.func228,Tryz.ntmps228
 go_wp2_with fail
 refine HR.out.mono ?_
 rintro e w1 ⟨v1,rfl,hn1⟩
 have Ka:=hid hn1
 clear hn1
 go_wp2
 go_ret2
 exact ⟨v1,rfl,Ka.out⟩
def readR (b:List UInt8) (a:Nat):Nat×Nat×Int:=
 if b.length-a<8 then (0,0,10) else
 if 127<(b.getD a 0).toNat then (0,0,13) else
 (numB ((b.drop a).take 8),a+8,0)
theorem or_word (i:Nat) (x y:Int) (h0:0≤x) (h1:x%2^i=0) (h2:x<9223372036854775808) (h3:0≤y) (h4:y<2^i) (hi:y<9223372036854775808):bits .or .i64 x y=x+y:=
 bits_join .i64 63 (by decide) (fun n h1 h2=>by rw [IntKind.wrap_i64];omega) i x y h0 h1 (by omega) h3 h4 (by omega)
theorem numB_head {l:List UInt8} {k:Nat} (hl:l.length=8) (h:(l.getD 0 0).toNat≤127) (hk:k≤8):numB (l.take k)<9223372036854775808:=by
 match l,hl with
 | c :: cs,hl=>
  rcases k with _|k
  ·simp [numB]
  ·have h':c.toNat≤127:=h
   rw [List.take_succ_cons]
   have h2:numB (c :: cs.take k)=(cs.take k).foldl (fun n c=>256*n+c.toNat) c.toNat:=by simp [numB]
   rw [h2]
   refine Nat.lt_of_lt_of_le (numB_lt' (cs.take k) c.toNat) ?_
   have h3:(cs.take k).length≤7:=by simp at hl⊢;omega
   have h4:256^(cs.take k).length≤256^7:=Nat.pow_le_pow_right (by omega) h3
   calc (c.toNat+1)*256^(cs.take k).length≤128*256^7:=Nat.mul_le_mul (by omega) h4
    _=9223372036854775808:=by decide
theorem numB_step {l:List UInt8} {k:Nat} (hk:k<l.length):numB (l.take (k+1))=256*numB (l.take k)+l[k].toNat:=by
 rw [List.take_succ_eq_append_getElem hk,numB_snoc]
theorem readRising_any {w:World} {v:Value} {b:List UInt8} (hv:BAt w v b) {a:Nat} (ha:a≤b.length) (hl:b.length≤140737488351232) :
  Calls Tryz.prog 233 #[v,.int .i64 a] w fun e w'=>e=.returned (.tuple #[.int .i64 ((readR b a).1:Nat),.int .i64 ((readR b a).2.1:Nat),.int .i64 (readR b a).2.2])∧w'=w:=by
 have HV:=hid hv
 have Kb:=hid (outside_in hv ha)
 obtain ⟨R,hR⟩:∃R,R=readR b a:=⟨_,rfl⟩
 rw [←hR]
 unfold readR at hR
 have HR:=hid hR
 clear hR
 obtain ⟨ao,cap,rfl,h1,h2,-,-⟩:=hv
 go_enter Tryz.func233,Tryz.ntmps233
 go_wp2_with fail
 refine Kb.out.mono ?_
 rintro e w' ⟨rfl,hww⟩
 obtain rfl:=hww.symm
 by_cases h8:b.length-a<8
 ·have hR:=HR.out
  rw [if_pos h8] at hR
  have HF:=hid hR
  have h8i:(b.length:Int)-(a:Int)<8:=by omega
  clear hR h8
  go_wp2
  go_ret3
  exact ⟨by rw [HF.out];rfl,rfl⟩
 ·have hR:=HR.out
  rw [if_neg h8] at hR
  have h8i:¬(b.length:Int)-(a:Int)<8:=by omega
  have ha8:a+8≤b.length:=by omega
  obtain ⟨g,o,rfl,hg,d0⟩:=HV.out.cell (j:=a) (by omega)
  have hgd:b.getD a 0=b[a]'(by omega):=by rw [List.getD_eq_getElem?_getD,List.getElem?_eq_getElem (by omega)];rfl
  rw [hgd] at hR
  have hgl:((b.drop a).take 8).getD 0 0=b[a]'(by omega):=by
   rw [List.getD_eq_getElem?_getD,List.getElem?_take,if_pos (by omega),List.getElem?_drop,List.getElem?_eq_getElem (by omega)];rfl
  generalize b[a]'(by omega)=c at d0 hR hgl
  have hc8:=c.toNat_lt
  by_cases h127:127<c.toNat
  ·rw [if_pos h127] at hR
   have h1i:(127:Int)<(c.toNat:Int):=by omega
   have HF:=hid hR
   clear hR h8 h127 hgd hgl
   go_wp2
   go_ret3
   exact ⟨by rw [HF.out];rfl,rfl⟩
  ·rw [if_neg h127] at hR
   have h1i:¬(127:Int)<(c.toNat:Int):=by omega
   obtain ⟨l,hl8⟩:∃l,l=(b.drop a).take 8:=⟨_,rfl⟩
   have hll:l.length=8:=by rw [hl8];simp;omega
   have hsub:=HV.out.sub (lo:=a) (n:=8) (by omega)
   rw [←hl8] at hR hgl hsub
   have HF:=hid hR
   have hhd:(l.getD 0 0).toNat≤127:=by rw [hgl];omega
   have Kc:=hid hsub;have Kd:=hid hhd;have Ka:=hid hll
   have i0:(0:Int)≤(a:Int):=by omega
   have i1:(a:Int)≤(a:Int)+8:=by omega
   have i2:(a:Int)+8≤(cap:Int):=by omega
   have i4:¬cap=a:=by omega
   have i6:a+8-a=8:=by omega
   have i8:¬cap-a=0:=by omega
   clear hR h8 h127 hgd hgl hl8 hsub hhd hll
   go_wp2
   go_loopw [7,32] (fun nv iv wr=>wr=w∧∃k:Nat,k≤8∧iv=.int .i64 k∧∃m:Nat,nv=.int .i64 m∧m=numB (l.take k)) (fun _ iv _=>8-(intOf iv).toNat)
   case atStart=>exact ⟨rfl,0,by omega,rfl,0,rfl,rfl⟩
   case round=>
    obtain ⟨hww,k,hk,rfl,m,rfl,hm⟩:=hrel
    obtain rfl:=hww.symm
    by_cases hk8:k<8
    ·obtain ⟨g',o',eg,-,dk⟩:=Kc.out.cell (j:=k) (by rw [Ka.out];exact hk8)
     injection eg with eg
     injection eg with eg1 eg2
     subst eg1 eg2
     have hst:=numB_step (l:=l) (k:=k) (by rw [Ka.out];exact hk8)
     have hlt:=numB_head (k:=k+1) Ka.out Kd.out (by omega)
     rw [hst,←hm] at hlt
     rw [←hm] at hst
     generalize l[k]'(by rw [Ka.out];exact hk8)=d at dk hst hlt
     have hd8:=d.toNat_lt
     obtain ⟨m2,hm2⟩:∃m2,m2=256*m+d.toNat:=⟨_,rfl⟩
     have hor:bits .or .i64 ((m:Int)*256) (d.toNat:Int)=(m2:Int):=by
      rw [or_word 8 _ _ (by omega) (by omega) (by omega) (by omega) (by omega) (by omega)];omega
     have hw:IntKind.i64.wrap ((m:Int)*256)=(m:Int)*256:=by rw [IntKind.wrap_i64];omega
     rw [←hm2] at hst
     have Ke:=hid hst
     clear hst hm hm2
     go_wp2
     try rw [hor]
     go_roundw
     case rel=>exact ⟨by trivial,k+1,by omega,by go_num,m2,rfl,Ke.out.symm⟩
     case measure=>simp [intOf];omega
    ·obtain rfl:k=8:=by omega
     have HM:=hid (show m=numB l from by rw [hm,←Ka.out,List.take_length])
     clear hm
     go_wp2
     go_ret3
     exact ⟨by rw [HF.out,←HM.out];rfl,rfl⟩
theorem readFalling_any {w:World} {v:Value} {b:List UInt8} (hv:BAt w v b) {a:Nat} (ha:a≤b.length) (hl:b.length≤140737488351232) :
  Calls Tryz.prog 224 #[v,.int .i64 a] w fun e w'=>e=.returned (.tuple #[.int .i64 ((readF b a).1:Nat),.int .i64 ((readF b a).2.1:Nat),.int .i64 (readF b a).2.2])∧w'=w:=by
 have HC:=hid (readRising_any hv ha hl)
 obtain ⟨n,p,e,hn,hf,hx,he⟩:∃(n p:Nat) (e:Int),readR b a=(n,p,e)∧readF b a=(if e=0 then 9223372036854775807-n else 0,p,e)∧(e=0→n≤9223372036854775807)∧(e≠0→p=0):=by
  unfold readR readF
  split
  ·exact ⟨_,_,_,rfl,rfl,by decide,by simp⟩
  ·split
   ·exact ⟨_,_,_,rfl,rfl,by decide,by simp⟩
   ·rename_i h1 h2
    refine ⟨_,_,_,rfl,rfl,fun _=>?_,by simp⟩
    have hgl:((b.drop a).take 8).getD 0 0=b.getD a 0:=by
     rw [List.getD_eq_getElem?_getD,List.getD_eq_getElem?_getD,List.getElem?_take,if_pos (by omega),List.getElem?_drop];rfl
    have:=numB_head (l:=(b.drop a).take 8) (k:=8) (by simp;omega) (by rw [hgl];omega) (by omega)
    rw [List.take_take,Nat.min_self] at this
    omega
 rw [hn] at HC
 rw [hf]
 obtain ⟨n2,hn2⟩:∃n2,n2=if e=0 then 9223372036854775807-n else 0:=⟨_,rfl⟩
 rw [←hn2]
 have Ka:=hid hn2
 clear hn2 hf hn
 go_enter Tryz.func224,Tryz.ntmps224
 go_wp2_with fail
 refine HC.out.mono ?_
 rintro e' w' ⟨rfl,hww⟩
 obtain rfl:=hww.symm
 by_cases h0:e=0
 ·have hx2:=hx h0
  have e1:(n2:Int)=9223372036854775807-(n:Int):=by have:=Ka.out;rw [if_pos h0] at this;omega
  subst h0
  have Kb:=hid e1
  clear hx he e1
  go_wp2
  go_ret3
  exact ⟨by rw [Kb.out];rfl,by trivial⟩
 ·have h0i:(e==0)=false:=by simp;exact h0
  have HP:=hid (he h0)
  have hz:n2=0:=by have:=Ka.out;rwa [if_neg h0] at this
  have HZ:=hid hz
  clear hx he hz h0
  go_wp2
  go_ret3
  exact ⟨by rw [HZ.out,HP.out];rfl,by trivial⟩
end Go.Proofs.YtgaidmohdhaonaaGreatDoor
