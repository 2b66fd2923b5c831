/-
  Package strataref1, walked: Same, Part, outside, Uint, Bytes.
  Package strataref1, walked: ReadUint, ReadBytes.
  Package strataref1, walked: Sum, Sealed.
  Package strataref1, walked: eight, number, Frame, ReadFrame.
  Package strataref1, walked: ReadFrame.
-/
import Derived.Test.YtgaidmohdhaonaaGreatDoorYC
import Derived.Handy
import Derived.Laws.ResultCell
import Derived.Deep.RegionLaw
set_option linter.unusedVariables false
set_option linter.unusedSimpArgs false
set_option linter.unnecessarySimpa false
set_option linter.unusedSectionVars false
set_option maxRecDepth 100000
set_option maxHeartbeats 6400000
namespace Go.Proofs.YtgaidmohdhaonaaGreatDoor
open Go Go.RowKit
theorem run_string_of {w:World} {v:Value} {bs:List UInt8} (h:BytesAt w v bs):(convert 22 9 v).run Tryz.prog w=.ok (.string (toBA bs)) w:=by
 obtain ⟨ao,cap,rfl,hn,hs⟩:=h
 cases ao with
 | none=>
  obtain ⟨rfl,rfl⟩:=hn rfl
  exact run_convert_bytes_nil w 22 5 Tryz.underlying22 Tryz.underlying5 _ _ 9 Tryz.underlying9
 | some a=>
  exact run_convert_bytes_back w 22 9 5 a cap bs Tryz.underlying22 Tryz.underlying5 Tryz.underlying9 (fun j hj=>hs a rfl j _ (by rw [List.getElem?_map,List.getElem?_eq_getElem hj];rfl))
theorem beq_toBA (a b:List UInt8):((toBA a).toList==(toBA b).toList)=decide (a=b):=by
 rw [beq_toList]
 congr 1
 apply propext
 constructor
 ·intro h
  have:=congrArg (fun x:ByteArray=>x.data.toList) h
  simpa [toBA] using this
 ·rintro rfl;rfl
theorem refSame_any {w:World} {a b:Value} {xs bs:List UInt8} (ha:BAt w a xs) (hb:BAt w b bs) :
  Calls Tryz.prog 79 #[a,b] w fun e w'=>e=.returned (.bool (decide (xs=bs)))∧w'=w:=by
 have h1:=run_string_of ha.bytes
 have h2:=run_string_of hb.bytes
 have hq:=beq_toBA xs bs
 obtain ⟨ao,ca,rfl,-,-⟩:=ha
 obtain ⟨bo,cb,rfl,-,-⟩:=hb
 go_enter Tryz.func79,Tryz.ntmps79
 go_wp2
 go_ret
 exact ⟨rfl,rfl⟩
theorem refOutside_in {w:World} {v:Value} {bs:List UInt8} (hv:BAt w v bs) {a:Nat} (ha:a≤bs.length) :
  Calls Tryz.prog 140 #[v,.int .i64 a] w fun e w'=>e=.returned (.bool false)∧w'=w:=by
 obtain ⟨ao,cap,rfl,-,-⟩:=hv
 have h0:¬(a:Int)<0:=by omega
 have h1:¬(bs.length:Int)<(a:Int):=by omega
 go_enter Tryz.func140,Tryz.ntmps140
 go_wp2
 go_ret
 exact ⟨rfl,rfl⟩
theorem refPart_any {w:World} {ao:Option Addr} {cap:Nat} {b:List UInt8} (hv:BAt w (.slice ao b.length cap) b) {lo hi:Nat} (h1:lo≤hi) (h2:hi≤b.length) (hl:b.length≤140737488351232) :
  Calls Tryz.prog 18 #[.slice ao b.length cap,.int .i64 lo,.int .i64 hi] w fun e w'=>∃v',e=.returned v'∧NewB w w' v' ((b.drop lo).take (hi-lo)):=by
 obtain ⟨ao',cap',e,hc1,hc2,hc3,hc4⟩:=id hv
 injection e with e1 e2 e3
 subst e1
 subst e3
 clear e2
 obtain ⟨n,hn⟩:∃n,n=hi-lo:=⟨_,rfl⟩
 rw [←hn]
 have hlo:(lo:Int)≤(hi:Int):=by omega
 have hhi:(hi:Int)≤(cap:Int):=by omega
 have hsub:(hi:Int)-(lo:Int)=(n:Int):=by omega
 have hn2:hi-lo=n:=hn.symm
 have hcl:((b.drop lo).take n).length=n:=by simp;omega
 have hcapm:cap≤9223372036854775807:=hc2
 by_cases hcap:cap=lo
 ·have h0:n=0:=by omega
  subst hcap
  subst h0
  have hs:BAt w (.slice ao 0 0) []:=⟨ao,0,rfl,by simp,by simp,fun _=>⟨rfl,rfl⟩,fun j hj=>by simp at hj⟩
  obtain ⟨v',w2,hr,hn2⟩:=(NewB.nil w).join hs (by simp) 22
  have HR:=hid hr
  have HN:=hid (show NewB w w2 v' ((b.drop cap).take 0) from hn2)
  clear hr hn2 hs hv hc3 hc4 hcl hn
  go_enter Tryz.func18,Tryz.ntmps18
  go_wp2_with (at_builtin;refine wpList_append_run rfl _ _ _ rfl rfl rfl HR.out ?_)
  go_ret
  exact ⟨_,rfl,HN.out⟩
 ·cases ao with
  | none=>exact absurd (hc3 rfl).2 (by have:=(hc3 rfl).2;omega)
  | some a=>
   have hs:BAt w (.slice (some (a.add lo)) n (cap-lo)) ((b.drop lo).take n):=by
    by_cases h0:n=0
    ·subst h0
     exact ⟨some (a.add lo),cap-lo,rfl,by simp,by omega,(fun h=>by cases h),fun j hj=>by simp at hj⟩
    ·obtain ⟨g',o',e,-,-⟩:=hc4 lo (by omega)
     injection e with e
     subst e
     rw [show (Addr.add ⟨g',o',none⟩ lo:Addr)=⟨g',o'+lo,none⟩ from by simp [Addr.add_lit]]
     exact hv.sub (by omega)
   obtain ⟨v',w2,hr,hn2⟩:=(NewB.nil w).join hs (by rw [hcl];simp;omega) 22
   have HR:=hid hr
   have HN:=hid (show NewB w w2 v' ((b.drop lo).take n) from hn2)
   clear hr hn2 hs hv hc3 hc4 hcl hn
   go_enter Tryz.func18,Tryz.ntmps18
   go_wp2_with (at_builtin;refine wpList_append_run rfl _ _ _ rfl rfl rfl HR.out ?_)
   go_ret
   exact ⟨_,rfl,HN.out⟩
theorem NewB.lit0 {w W:World} (hu:Upd (fun _=>False) w W) (ms:List UInt8) (h0:0<ms.length) (hl:ms.length≤1000):NewB w (W.alloc (.cells (ms.map byteV).toArray 5)) (.slice (some ⟨W.heap.size,0,none⟩) ms.length ms.length) ms:=
 ⟨.inr ⟨W.heap.size,_,_,rfl,heap_alloc_new _ _,Nat.le_refl _,by simp,by unfold maxLen;omega,by rw [List.take_of_length_le (by simp)]⟩,fun k e=>by simp only [Value.ownBlock,Option.some.injEq] at e;have:=hu.size;omega,hu.alloc _⟩
theorem refUint_any {w:World} {n:Nat} (hn:n<18446744073709551616) :
  Calls Tryz.prog 171 #[.int .u64 n] w fun e w'=>∃v,e=.returned v∧NewB w w' v (uintB n):=by
 have hlen:=uintB_len 9 n (by omega)
 go_enter Tryz.func171,Tryz.ntmps171
 go_wp2
 go_loopw [0,3] (fun nv bv wr=>∃m:Nat,nv=.int .u64 m∧m<18446744073709551616∧∃pre ao cap,bv=.slice ao pre.length cap∧NewB w wr (.slice ao pre.length cap) pre∧uintB n=pre++uintB m) (fun nv _ _=>(intOf nv).toNat)
 case atStart=>exact ⟨n,rfl,hn,[],none,0,rfl,NewB.nil w,rfl⟩
 case round=>
  obtain ⟨m,rfl,hm,pre,ao,cap,rfl,hnew,he⟩:=hrel
  have hpl:pre.length≤10:=by have:=congrArg List.length he;rw [List.length_append] at this;omega
  have HE:=hid he
  obtain ⟨L,hL⟩:∃L,L=pre.length:=⟨_,rfl⟩
  by_cases hb:128≤m
  ·have hbig:(127:Int)<(m:Int):=by omega
   have hor:128+(m:Int)%128=(((UInt8.ofNat (128+m%128)).toNat:Nat):Int):=by rw [UInt8.toNat_ofNat'];omega
   obtain ⟨v',w2,hr,hn2⟩:=hnew.push [UInt8.ofNat (128+m%128)] (by simp;omega) 22
   obtain ⟨ao2,cap2,hv2,-,-⟩:=hn2.shape
   rw [List.length_append,List.length_singleton] at hv2
   subst hv2
   have hr':(Builtin.append_ #[22,22] 22 #[.slice ao pre.length cap,.slice (some ⟨wr.heap.size,0,none⟩) 1 1]).run Tryz.prog (wr.alloc (.cells #[.int .u8 ((UInt8.ofNat (128+m%128)).toNat:Int)] 5))=.ok (.slice ao2 (pre.length+1) cap2) w2:=hr
   rw [←hor] at hr'
   rw [←hL] at hr'⊢
   obtain ⟨L2,hL2⟩:∃L2,L2=L+1:=⟨_,rfl⟩
   rw [←hL2] at hr'
   have HR:=hid hr';have HN:=hid hn2;have Ka:=hid hL;have Kb:=hid hL2
   clear hr hr' hn2 hor hnew he hL hL2 hlen
   go_wp2_with (at_builtin;refine wpList_append_run rfl _ _ _ rfl rfl rfl HR.out ?_)
   go_roundw
   case rel=>
    refine ⟨m / 128,by simp,by omega,pre ++ [UInt8.ofNat (128+m%128)],ao2,cap2,by rw [Kb.out,Ka.out];simp,?_,?_⟩
    ·have h:=HN.out
     simpa using h
    ·rw [HE.out,uintB_big (by omega:¬m<128)]
     simp
   case measure=>simp [intOf];omega
  ·have hsm:¬(127:Int)<(m:Int):=by omega
   have hw8:(((UInt8.ofNat m).toNat:Nat):Int)=(m:Int):=by rw [UInt8.toNat_ofNat'];omega
   obtain ⟨v',w2,hr,hn2⟩:=hnew.push [UInt8.ofNat m] (by simp;omega) 22
   obtain ⟨ao2,cap2,hv2,-,-⟩:=hn2.shape
   have hr':(Builtin.append_ #[22,22] 22 #[.slice ao pre.length cap,.slice (some ⟨wr.heap.size,0,none⟩) 1 1]).run Tryz.prog (wr.alloc (.cells #[.int .u8 ((UInt8.ofNat m).toNat:Int)] 5))=.ok v' w2:=hr
   rw [hw8] at hr'
   have hfin:NewB w w2 v' (uintB n):=by rw [he,uintB_small (by omega)];exact hn2
   rw [←hL] at hr'⊢
   rw [hv2] at hr' hfin
   obtain ⟨L2,hL2⟩:∃L2,L2=(pre ++ [UInt8.ofNat m]).length:=⟨_,rfl⟩
   rw [←hL2] at hr' hfin
   have HR:=hid hr';have HF:=hid hfin
   clear hr hr' hn2 hnew he hL hL2 hv2 hfin hlen hw8
   go_wp2_with (at_builtin;refine wpList_append_run rfl _ _ _ rfl rfl rfl HR.out ?_)
   go_ret
   exact ⟨_,rfl,HF.out⟩
theorem refBytes_any {w:World} {v:Value} {b:List UInt8} (hv:BAt w v b) (hl:b.length≤140737488351232) :
  Calls Tryz.prog 138 #[v] w fun e w'=>∃v',e=.returned v'∧NewB w w' v' (bytesB b):=by
 have HV:=hid hv
 have HU:=hid (refUint_any (w:=w) (n:=b.length) (by omega))
 have hul:=uintB_len 9 b.length (by omega)
 obtain ⟨ao,cap,rfl,h1,h2,-,-⟩:=hv
 go_enter Tryz.func138,Tryz.ntmps138
 go_wp2_with fail
 refine HU.out.mono ?_
 rintro e w1 ⟨v1,rfl,hn⟩
 obtain ⟨v2,w2,hr,hn2⟩:=hn.join (HV.out.keep hn.upd) (by omega) 22
 obtain ⟨a1,c1,hv1,-,-⟩:=hn.shape
 obtain ⟨a2,c2,hv2,-,-⟩:=hn2.shape
 rw [hv1,hv2] at hr
 rw [hv1]
 rw [hv2] at hn2
 obtain ⟨L1,hL1⟩:∃L,L=(uintB b.length).length:=⟨_,rfl⟩
 obtain ⟨L2,hL2⟩:∃L,L=(uintB b.length++b).length:=⟨_,rfl⟩
 rw [←hL2] at hr hn2
 rw [←hL1] at hr⊢
 have HR:=hid hr;have HN:=hid hn2
 clear hr hn2 hn hv1 hv2 hL1 hL2 hul
 go_wp2_with (at_builtin;refine wpList_append_run rfl _ _ _ rfl rfl rfl HR.out ?_)
 go_ret
 exact ⟨_,rfl,HN.out⟩
theorem refReadUint_any {w:World} {v:Value} {b:List UInt8} (hv:BAt w v b) {a:Nat} (ha:a≤b.length) (hl:b.length≤4611686018427387904) :
  Calls Tryz.prog 143 #[v,.int .i64 a] w fun e w'=>e=.returned (.tuple #[.int .u64 ((readU b a).1:Nat),.int .i64 ((readU b a).2.1:Nat),.int .i64 (readU b a).2.2])∧w'=w:=by
 have HV:=hid hv
 obtain ⟨R,hR⟩:∃R,R=readU b a:=⟨_,rfl⟩
 rw [←hR]
 have Ke:=hid hR
 clear hR
 obtain ⟨ao,cap,rfl,h1,h2,-,hcell⟩:=hv
 have HC:=hid hcell
 clear hcell
 go_enter Tryz.func143,Tryz.ntmps143
 go_wp2_with fail
 refine (refOutside_in HV.out ha).mono ?_
 rintro e w' ⟨rfl,hww⟩
 obtain rfl:=hww.symm
 go_wp2
 go_loopw [7,8,9] (fun vv uv iv wr=>∃i:Nat,i≤9∧iv=.int .i64 i∧∃x un:Nat,vv=.int .u64 x∧uv=.int .u64 un∧un=128^i∧x<128^i∧a+i≤b.length∧R=ru (b.drop (a+i)) (a+i) i x∧wr=w) (fun _ _ iv _=>10-(intOf iv).toNat)
 case atStart=>exact ⟨0,by omega,rfl,0,1,rfl,rfl,rfl,by simp,ha,Ke.out,rfl⟩
 case round=>
  obtain ⟨i,hi,rfl,x,un,rfl,rfl,hun,hx,hai,he,hww⟩:=hrel
  obtain rfl:=hww.symm
  have Kb:=hid hun
  clear hun
  by_cases hend:b.length≤a+i
  ·have hr:R=(0,0,10):=by rw [he,List.drop_eq_nil_of_le hend];rfl
   have HF:=hid hr
   have hendi:(b.length:Int)≤(a:Int)+(i:Int):=by omega
   clear he hr
   go_wp2
   go_ret3
   exact ⟨by rw [HF.out];rfl,rfl⟩
  ·have hendi:¬(b.length:Int)≤(a:Int)+(i:Int):=by omega
   obtain ⟨g,o,rfl,hg,d0⟩:=HC.out (a+i) (by omega)
   have hdrop:b.drop (a+i)=b[a+i]'(by omega) :: b.drop (a+i+1):=List.drop_eq_getElem_cons (by omega)
   rw [hdrop] at he
   generalize b[a+i]'(by omega)=c at d0 he
   rw [ru] at he
   have hc8:=c.toNat_lt
   simp only [byteV] at d0
   clear hdrop
   by_cases h9:i=9∧1<c.toNat
   ·rw [if_pos h9] at he
    have HF:=hid he
    obtain ⟨h91,h92⟩:=h9
    subst h91
    have h92i:(1:Int)<(c.toNat:Int):=by omega
    clear he
    go_wp2
    go_ret3
    exact ⟨by rw [HF.out];rfl,rfl⟩
   ·rw [if_neg h9] at he
    have h9':¬(i=9∧(1:Int)<(c.toNat:Int)):=by omega
    have HE:=hid he;have H9:=hid h9
    clear he h9
    go_upto_region 11 with fail
    go_cut [36] (fun bv wx=>bv=.bool false∧wx=w)
    case first=>
     by_cases hi9:i=9
     ·subst hi9
      have hle:¬(1:Int)<(c.toNat:Int):=by omega
      go_wp2
      go_meet
      case rel=>exact ⟨rfl,rfl⟩
     ·have hne:((i:Int)==9)=false:=by simp;omega
      go_wp2
      go_meet
      case rel=>exact ⟨rfl,rfl⟩
    case rest=>
     obtain ⟨rfl,hcw⟩:=hcut
     obtain rfl:=hcw.symm
     obtain ⟨mm,hmm⟩:∃mm:Nat,mm=128^i*(c.toNat%128):=⟨_,rfl⟩
     obtain ⟨x2,hx2⟩:∃x2:Nat,x2=x+128^i*(c.toNat%128):=⟨_,rfl⟩
     obtain ⟨un2,hun2⟩:∃un2:Nat,un2=un*128%18446744073709551616:=⟨_,rfl⟩
     have hx3:x2<128^(i+1):=by
      rw [hx2,Nat.pow_succ]
      have h1:128^i*(c.toNat%128)≤128^i*127:=Nat.mul_le_mul_left _ (by omega)
      omega
     have hx4:x2<18446744073709551616:=by
      by_cases e:i=9
      ·subst e
       have h1:c.toNat≤1:=by have:=H9.out;omega
       have h2:c.toNat%128=c.toNat:=by omega
       rw [hx2,h2]
       have h3:(128:Nat)^9*c.toNat≤128^9*1:=Nat.mul_le_mul_left _ h1
       omega
      ·have h1:(128:Nat)^(i+1)≤128^9:=Nat.pow_le_pow_right (by decide) (by omega)
       omega
     have hmul:(un:Int)*((c.toNat:Int)%128)=(mm:Int):=by rw [hmm,Kb.out];push_cast;rfl
     have hmm4:mm<18446744073709551616:=by omega
     have hmulw:IntKind.u64.wrap (mm:Int)=(mm:Int):=by rw [IntKind.wrap_u64];omega
     have hadd:(x:Int)+(mm:Int)=(x2:Int):=by omega
     have haddw:IntKind.u64.wrap (x2:Int)=(x2:Int):=by rw [IntKind.wrap_u64];omega
     have hunw:IntKind.u64.wrap ((un:Int)*128)=(un2:Int):=by rw [IntKind.wrap_u64,hun2];omega
     have Kc:=hid hx2;have Kf:=hid hx3;have Kd:=hid hun2
     have hx8:x<18446744073709551616:=by omega
     clear hx2 hx3 hmm hun2 hx
     go_upto_region 15 with fail
     clear hmul hmulw hadd haddw hunw h9'
     by_cases hc:c.toNat<128
     ·have hci:(c.toNat:Int)<128:=by omega
      have Ka:=HE.out
      rw [if_pos hc] at Ka
      by_cases hz:c.toNat=0∧0<i
      ·rw [if_pos hz] at Ka
       have HF:=hid Ka
       obtain ⟨hz1,hz2⟩:=hz
       have hz1i:((c.toNat:Int)==0)=true:=by simp [hz1]
       have hz2i:(0:Int)<(i:Int):=by omega
       clear Ka hz1
       go_wp2
       go_ret3
       exact ⟨by rw [HF.out];rfl,rfl⟩
      ·rw [if_neg hz] at Ka
       have hxe:x+128^i*c.toNat=x2:=by rw [Kc.out,Nat.mod_eq_of_lt hc]
       rw [hxe] at Ka
       have HF:=hid Ka
       clear Ka hxe
       by_cases hz0:c.toNat=0
       ·have hz1i:((c.toNat:Int)==0)=true:=by simp [hz0]
        have hz2i:¬(0:Int)<(i:Int):=by omega
        clear hz hz0
        go_wp2
        go_ret3
        exact ⟨by rw [HF.out];rfl,rfl⟩
       ·have hz1i:((c.toNat:Int)==0)=false:=by simp [hz0]
        clear hz hz0
        go_wp2
        go_ret3
        exact ⟨by rw [HF.out];rfl,rfl⟩
     ·have hci:¬(c.toNat:Int)<128:=by omega
      have Ka:=HE.out
      rw [if_neg hc] at Ka
      have hxe:x+128^i*(c.toNat-128)=x2:=by rw [Kc.out];congr 2;omega
      rw [hxe] at Ka
      have hlt9:i<9:=by
       by_cases e:i=9
       ·have:=H9.out;omega
       ·omega
      have H2:=hid Ka
      have hai2:a+i+1≤b.length:=by omega
      clear Ka hxe
      go_wp2
      go_roundw
      case rel=>exact ⟨i+1,by omega,by go_num,x2,un2,rfl,rfl,by have h:=Kd.out;rw [h,Kb.out];have h1:(128:Nat)^(i+1)≤128^9:=Nat.pow_le_pow_right (by decide) (by omega);rw [Nat.pow_succ] at h1⊢;omega,Kf.out,by omega,by have h:=H2.out;rw [show a+(i+1)=a+i+1 from by omega];exact h,by trivial⟩
      case measure=>simp [intOf];omega
theorem refReadBytes_any {w:World} {v:Value} {b:List UInt8} (hv:BAt w v b) {a:Nat} (ha:a≤b.length) (hl:b.length≤140737488351232) {most:Nat} (hm:most≤140737488351232) :
  Calls Tryz.prog 144 #[v,.int .i64 a,.int .i64 most] w fun e w'=>∃v',e=.returned (.tuple #[v',.int .i64 ((readB b a most).2.1:Nat),.int .i64 (readB b a most).2.2])∧NewB w w' v' (readB b a most).1:=by
 have HV:=hid hv
 have Kc:=hid (refOutside_in hv ha)
 have Ka:=hid (refReadUint_any hv ha (by omega))
 obtain ⟨R,hR⟩:∃R,R=readB b a most:=⟨_,rfl⟩
 obtain ⟨U,hU⟩:∃U,U=readU b a:=⟨_,rfl⟩
 rw [←hR]
 rw [←hU] at Ka
 have hok:U.2.2=0→U.1<18446744073709551616∧a<U.2.1∧U.2.1≤b.length:=fun h=>by rw [hU] at h⊢;exact readU_ok h ha
 unfold readB at hR
 simp only [←hU] at hR
 obtain ⟨u1,u2,u3⟩:=U
 simp only at hR hok Ka
 have HR:=hid hR;have Kd:=hid hok
 obtain ⟨ao,cap,rfl,h1,h2,h3,h4⟩:=hv
 have HC:=hid h4;have HN:=hid h3
 clear hR hok hU h3 h4
 have hm0:¬(most:Int)<0:=by omega
 go_enter Tryz.func144,Tryz.ntmps144
 go_wp2_with fail
 refine Kc.out.mono ?_
 rintro e w' ⟨rfl,hww⟩
 obtain rfl:=hww.symm
 go_wp2_with fail
 refine Ka.out.mono ?_
 rintro e w' ⟨rfl,hww⟩
 obtain rfl:=hww.symm
 by_cases he:u3=0
 ·subst he
  obtain ⟨k1,k2,k3⟩:=Kd.out rfl
  have hR:=HR.out
  rw [if_neg (by simp)] at hR
  by_cases hb:most<u1
  ·rw [if_pos hb] at hR
   have HF:=hid hR
   have hbi:(most:Int)<(u1:Int):=by omega
   clear hR hb
   go_wp2
   go_ret3
   exact ⟨.slice none 0 0,by rw [HF.out];rfl,by rw [HF.out];exact NewB.nil _⟩
  ·rw [if_neg hb] at hR
   have hbi:¬(most:Int)<(u1:Int):=by omega
   by_cases ht:b.length-u2<u1
   ·rw [if_pos ht] at hR
    have HF:=hid hR
    have hti:(b.length:Int)-(u2:Int)<(u1:Int):=by omega
    clear hR hb ht
    go_wp2
    go_ret3
    exact ⟨.slice none 0 0,by rw [HF.out];rfl,by rw [HF.out];exact NewB.nil _⟩
   ·rw [if_neg ht] at hR
    have HF:=hid hR
    have hti:¬(b.length:Int)-(u2:Int)<(u1:Int):=by omega
    have hlo:u2+u1≤b.length:=by omega
    have hsumi:(u2:Int)+(u1:Int)=((u2+u1:Nat):Int):=by omega
    have hsumw:IntKind.i64.wrap ((u2:Int)+(u1:Int))=((u2+u1:Nat):Int):=by rw [IntKind.wrap_i64];omega
    have Kb:=hid (refPart_any HV.out (lo:=u2) (hi:=u2+u1) (by omega) hlo hl)
    rw [show u2+u1-u2=u1 from by omega] at Kb
    obtain ⟨u5,hu5⟩:∃u5,u5=u2+u1:=⟨_,rfl⟩
    rw [←hu5] at hsumi hsumw Kb hlo
    have hu15:u1≤b.length:=by omega
    have Ke:=hid hu5
    clear hR hb ht hu5
    go_wp2_with fail
    refine Kb.out.mono ?_
    rintro e w2 ⟨v2,rfl,hn2⟩
    have Kf:=hid (show NewB w w2 v2 R.1 from by rw [HF.out];exact hn2)
    clear hn2
    go_wp2
    go_ret3
    exact ⟨v2,by rw [HF.out,Ke.out];rfl,Kf.out⟩
 ·have hR:=HR.out
  rw [if_pos he] at hR
  have HF:=hid hR
  have hei:(u3 != 0)=true:=by simpa using he
  clear hR he
  go_wp2
  go_ret3
  exact ⟨.slice none 0 0,by rw [HF.out];rfl,by rw [HF.out];exact NewB.nil _⟩
theorem refSum_any {w:World} {v:Value} {bs:List UInt8} {q:Nat} (hq:w.heap[q]? = some (.cells #[v] 22 (0,0))) (hv:BAt w v bs) (hl:bs.length≤140737488351232) :
  Calls Tryz.prog 173 #[.slice (some ⟨q,0,none⟩) 1 1] w fun e w'=>e=.returned (.int .u32 (crc bs:Nat))∧w'=w:=by
 have HV:=hid hv
 have hql:=lt_of_heap hq
 have hq0:w.cell? ⟨q,0,none⟩=some v:=by rw [cell_of_row w q 0 _ _ _ hq];rfl
 obtain ⟨ao,cap,rfl,h1,h2,-,h4⟩:=hv
 have HC:=hid h4
 clear hq h4
 go_enter Tryz.func173,Tryz.ntmps173
 go_wp2
 go_loopw [3,4] (fun cv iv wr=>wr=w∧∃n:Nat,n≤1∧iv=.int .i64 n∧cv=.int .u32 ((creg 4294967295 (if n=0 then [] else bs):Nat):Int)) (fun _ iv _=>1-(intOf iv).toNat)
 case atStart=>exact ⟨rfl,0,by omega,rfl,rfl⟩
 case round=>
  obtain ⟨hww,n,hn,rfl,rfl⟩:=hrel
  obtain rfl:=hww.symm
  by_cases hn0:n=0
  ·subst hn0
   rw [if_pos rfl]
   go_wp2
   go_loopw [3,5] (fun cv iv wr=>wr=w∧∃k:Nat,k≤bs.length∧iv=.int .i64 k∧∃r:Nat,r<4294967296∧r=creg 4294967295 (bs.take k)∧cv=.int .u32 (r:Int)) (fun _ iv _=>bs.length-(intOf iv).toNat)
   case atStart=>exact ⟨rfl,0,Nat.zero_le _,rfl,4294967295,by decide,rfl,rfl⟩
   case round=>
    obtain ⟨hww2,k,hk,rfl,r,hr,hre,rfl⟩:=hrel
    obtain rfl:=hww2.symm
    by_cases hlt:k<bs.length
    ·obtain ⟨g,o,rfl,hg,d0⟩:=HC.out k hlt
     have hstep:=creg_step 4294967295 bs k hlt
     rw [←hre] at hstep
     generalize bs[k]=c at d0 hstep
     simp only [byteV] at d0
     have hc8:c.toNat<256:=c.toNat_lt
     have Kg:=hid hstep
     have hR2:cbits 8 r c.toNat<4294967296:=cbits_lt 8 hr
     obtain ⟨R2,hR2e⟩:∃R2,R2=cbits 8 r c.toNat:=⟨_,rfl⟩
     rw [←hR2e] at hR2
     have Kj:=hid hR2
     have Ka:=hid hR2e
     have HR:=hid hr
     have Kb:=hid hc8
     obtain ⟨cn,hcn⟩:∃cn,cn=c.toNat:=⟨_,rfl⟩
     rw [←hcn] at d0 Ka Kb
     have Kh:=hid hcn
     clear hre hstep hR2 hR2e hcn hc8 hr
     go_wp2
     go_loopw [3,6,7] (fun rv cv jv wr=>wr=w∧∃j:Nat,j≤8∧jv=.int .i64 j∧∃r1 c1:Nat,rv=.int .u32 (r1:Int)∧cv=.int .u8 (c1:Int)∧r1<4294967296∧c1<256∧cbits (8-j) r1 c1=R2) (fun _ _ jv _=>8-(intOf jv).toNat)
     case atStart=>exact ⟨rfl,0,by omega,rfl,r,cn,rfl,rfl,HR.out,Kb.out,Ka.out.symm⟩
     case round=>
      obtain ⟨hww3,j,hj,rfl,r1,c1,rfl,rfl,hr1,hc1,hcb⟩:=hrel
      obtain rfl:=hww3.symm
      have Kc:=hid hcb
      clear hcb
      by_cases hj8:j<8
      ·have HS:=hid (show cbits (8-(j+1)) (cbit r1 c1) (c1 / 2)=R2 from by rw [←Kc.out,show 8-j=(8-(j+1))+1 from by omega];rfl)
       have Kd:=hid (cbit_lt (c:=c1) hr1)
       by_cases hodd:r1%2≠c1%2
       ·have hb:(((r1:Int)%2) != ((c1:Int)%2))=true:=by simp;omega
        have hx:bits .xor .u32 ((r1:Int) / 2) 2197175160=((cbit r1 c1:Nat):Int):=by
         rw [show ((r1:Int) / 2)=((r1 / 2:Nat):Int) from by omega,show (2197175160:Int)=((2197175160:Nat):Int) from rfl,u32_xor_nat _ _ (by omega) (by decide)]
         unfold cbit
         rw [if_pos hodd]
        obtain ⟨r2,hr2⟩:∃r2,r2=cbit r1 c1:=⟨_,rfl⟩
        rw [←hr2] at hx HS Kd
        clear hodd hr2
        go_wp2
        go_roundw
        case rel=>exact ⟨by trivial,j+1,by omega,by go_num,r2,c1 / 2,rfl,by go_num,Kd.out,by omega,HS.out⟩
        case measure=>simp [intOf];omega
       ·have hb:(((r1:Int)%2) != ((c1:Int)%2))=false:=by simp;omega
        have hx:cbit r1 c1=r1 / 2:=by unfold cbit;rw [if_neg hodd]
        rw [hx] at HS
        clear hodd hx
        go_wp2
        go_roundw
        case rel=>exact ⟨by trivial,j+1,by omega,by go_num,r1 / 2,c1 / 2,by go_num,by go_num,by omega,by omega,HS.out⟩
        case measure=>simp [intOf];omega
      ·obtain rfl:j=8:=by omega
       have HE:=hid (show r1=creg 4294967295 (bs.take (k+1)) from by rw [Kg.out];unfold cbyte;rw [←Kh.out,←Ka.out,←Kc.out];rfl)
       go_wp2
       go_roundw
       case rel=>exact ⟨by trivial,k+1,by omega,by go_num,r1,hr1,HE.out,rfl⟩
       case measure=>simp [intOf];omega
    ·obtain rfl:k=bs.length:=by omega
     have Ki:=hid (show r=creg 4294967295 bs from by rw [hre,List.take_length])
     clear hre
     go_wp2
     go_roundw
     case rel=>exact ⟨by trivial,1,by omega,by go_num,by rw [if_neg (by decide),←Ki.out]⟩
     case measure=>simp [intOf]
  ·obtain rfl:n=1:=by omega
   rw [if_neg (by decide)]
   have hcl:=creg_lt bs (r:=4294967295) (by decide)
   have Ke:=hid (show crc bs=4294967295-creg 4294967295 bs from rfl)
   generalize creg 4294967295 bs=r at hcl Ke
   have hsub:(4294967295:Int)-(r:Int)=((4294967295-r:Nat):Int):=by omega
   have Kf:=hid hsub
   clear hsub
   go_wp2
   go_ret
   refine ⟨?_,rfl⟩
   rw [Ke.out,←Kf.out]
   rfl
theorem refSealed_any {w:World} {v:Value} {bs:List UInt8} (hv:BAt w v bs) (hl:bs.length≤140737488351232) :
  Calls Tryz.prog 141 #[v] w fun e w'=>∃v',e=.returned v'∧NewB w w' v' (lowB (crc bs)):=by
 have hu:Upd (fun _=>False) w (w.alloc (.cells #[v] 22)):=(Upd.refl _ _).alloc _
 have HS:=hid (refSum_any (heap_alloc_new w (.cells #[v] 22)) (hv.keep hu) hl)
 have Ka:=hid (crc_lt bs)
 obtain ⟨c,hc⟩:∃c,c=crc bs:=⟨_,rfl⟩
 rw [←hc] at HS Ka
 have Kb:=hid hc
 obtain ⟨ao,cap,rfl,-,-⟩:=hv
 have e0:(((UInt8.ofNat c).toNat:Nat):Int)=(c:Int)%256:=by rw [UInt8.toNat_ofNat'];omega
 have e1:(((UInt8.ofNat (c / 256)).toNat:Nat):Int)=(c:Int) / 256%256:=by rw [UInt8.toNat_ofNat'];omega
 have e2:(((UInt8.ofNat (c / 65536)).toNat:Nat):Int)=(c:Int) / 65536%256:=by rw [UInt8.toNat_ofNat'];omega
 have e3:(((UInt8.ofNat (c / 16777216)).toNat:Nat):Int)=(c:Int) / 16777216%256:=by rw [UInt8.toNat_ofNat'];have:=Ka.out;omega
 have HN:=hid (fun (W:World) (hW:Upd (fun _=>False) w W)=>NewB.lit0 hW (lowB c) (by simp [lowB]) (by simp [lowB]))
 have HE:=hid (And.intro e0 (And.intro e1 (And.intro e2 e3)))
 clear hc e0 e1 e2 e3
 go_enter Tryz.func141,Tryz.ntmps141
 go_wp2_with fail
 refine HS.out.mono ?_
 rintro e w2 ⟨rfl,rfl⟩
 have hf:=HN.out _ hu
 have hsz:(w.alloc (.cells #[.slice ao bs.length cap] 22)).heap.size=w.heap.size+1:=by simp
 rw [hsz] at hf
 have HF:=hid hf
 clear hu hf hsz
 go_wp2
 go_ret
 rw [←Kb.out,←HE.out.1,←HE.out.2.1,←HE.out.2.2.1,←HE.out.2.2.2]
 exact ⟨_,rfl,HF.out⟩
theorem eight_step (n k:Nat) (hk:k<8):(eightB n).drop (8-(k+1))=UInt8.ofNat (n / 256^k) :: (eightB n).drop (8-k):=by
 match k,hk with
 | 0,_=>simp [eightB]
 | 1,_=>simp [eightB]
 | 2,_=>simp [eightB]
 | 3,_=>simp [eightB]
 | 4,_=>simp [eightB]
 | 5,_=>simp [eightB]
 | 6,_=>simp [eightB]
 | 7,_=>simp [eightB]
theorem refEight_any {w:World} {n:Nat} (hn:n<18446744073709551616) :
  Calls Tryz.prog 172 #[.int .u64 n] w fun e w'=>∃v,e=.returned v∧NewB w w' v (eightB n):=by
 go_enter Tryz.func172,Tryz.ntmps172
 go_wp2
 go_loopw [0,3,4] (fun nv bv iv wr=>∃k:Nat,k≤8∧iv=.int .i64 k∧∃m:Nat,nv=.int .u64 m∧m<18446744073709551616∧m=n / 256^k∧∃ao cap,bv=.slice ao k cap∧NewB w wr (.slice ao k cap) ((eightB n).drop (8-k))) (fun _ _ iv _=>8-(intOf iv).toNat)
 case atStart=>exact ⟨0,by omega,rfl,n,rfl,hn,by simp,none,0,rfl,NewB.nil w⟩
 case round=>
  obtain ⟨k,hk,rfl,m,rfl,hm,hme,ao,cap,rfl,hnew⟩:=hrel
  by_cases hk8:k<8
  ·have hb:(((UInt8.ofNat m).toNat:Nat):Int)=(m:Int)%256:=by rw [UInt8.toNat_ofNat'];omega
   have hst:=eight_step n k hk8
   rw [←hme] at hst
   have hlit:=NewB.lit0 (w:=wr) (Upd.refl (fun _=>False) wr) [UInt8.ofNat m] (by simp) (by simp)
   have hlit':=hlit.rebase hnew.upd
   have hkl:((eightB n).drop (8-k)).length=k:=by simp [eightB_len];omega
   obtain ⟨ao2,L2,cap2,w2,hr,hn2⟩:=hlit'.glue (hnew.data.bat.keep hlit.upd) (by rw [hkl];simp;omega)
   obtain ⟨ao3,cap3,hv3,-,-⟩:=hn2.shape
   injection hv3 with e1 e2 e3
   subst e1
   subst e3
   have hL:L2=k+1:=by rw [e2,List.length_append,hkl];simp;omega
   clear e2
   rw [List.singleton_append,←hst] at hn2
   have hr':(Builtin.append_ #[22,22] 22 #[.slice (some ⟨wr.heap.size,0,none⟩) 1 1,.slice ao k cap]).run Tryz.prog (wr.alloc (.cells #[.int .u8 (((UInt8.ofNat m).toNat:Nat):Int)] 5))=.ok (.slice ao2 L2 cap2) w2:=hr
   rw [hb] at hr'
   have HR:=hid hr';have HN:=hid hn2;have HL:=hid hL;have Ka:=hid hme
   clear hr hr' hn2 hst hlit hlit' hnew hb hkl hL hme
   go_wp2_with (at_builtin;refine wpList_append_run rfl _ _ _ rfl rfl rfl HR.out ?_)
   go_roundw
   case rel=>
    refine ⟨k+1,by omega,by go_num,m / 256,by go_num,by omega,by rw [Ka.out,Nat.div_div_eq_div_mul,Nat.pow_succ],ao2,cap2,by rw [HL.out],?_⟩
    have h:=HN.out
    rw [HL.out] at h
    exact h
   case measure=>simp [intOf];omega
  ·obtain rfl:k=8:=by omega
   have HN:=hid hnew
   clear hnew
   go_wp2
   go_ret
   exact ⟨_,rfl,HN.out⟩
theorem numB_take (b:List UInt8) (a k:Nat) (h:a+k<b.length):numB ((b.drop a).take (k+1))=256*numB ((b.drop a).take k)+(b[a+k]'h).toNat:=by
 rw [List.take_succ_eq_append_getElem (by simp;omega),numB_snoc]
 simp
theorem refNumber_any {w:World} {v:Value} {b:List UInt8} (hv:BAt w v b) {a n:Nat} (hn:n≤8) (ha:a+n≤b.length) (hl:b.length≤140737488351232) :
  Calls Tryz.prog 142 #[v,.int .i64 a,.int .i64 n] w fun e w'=>e=.returned (.int .u64 (numB ((b.drop a).take n):Nat))∧w'=w:=by
 obtain ⟨ao,cap,rfl,h1,h2,h3,h4⟩:=hv
 have HC:=hid h4
 clear h3 h4
 go_enter Tryz.func142,Tryz.ntmps142
 go_wp2
 go_loopw [7,8] (fun nv iv wr=>wr=w∧∃k:Nat,k≤n∧iv=.int .i64 k∧∃m:Nat,nv=.int .u64 m∧m=numB ((b.drop a).take k)) (fun _ iv _=>n-(intOf iv).toNat)
 case atStart=>exact ⟨rfl,0,Nat.zero_le _,rfl,0,rfl,rfl⟩
 case round=>
  obtain ⟨hww,k,hk,rfl,m,rfl,hme⟩:=hrel
  obtain rfl:=hww.symm
  by_cases hlt:k<n
  ·obtain ⟨g,o,rfl,hg,d0⟩:=HC.out (a+k) (by omega)
   have hst:=numB_take b a k (by omega)
   have hml:=numB_lt ((b.drop a).take k)
   have hkl:((b.drop a).take k).length=k:=by simp;omega
   rw [hkl,←hme] at hml
   have hm7:m<256^7:=Nat.lt_of_lt_of_le hml (Nat.pow_le_pow_right (by decide) (by omega))
   rw [←hme] at hst
   generalize b[a+k]=c at d0 hst
   simp only [byteV] at d0
   have hc8:=c.toNat_lt
   have hm56:m<72057594037927936:=by omega
   obtain ⟨m2,hm2⟩:∃m2,m2=256*m+c.toNat:=⟨_,rfl⟩
   rw [←hm2] at hst
   have hadd:256*(m:Int)+(c.toNat:Int)=(m2:Int):=by omega
   have Ka:=hid hst.symm;have hm64:m2<18446744073709551616:=by omega
   clear hst hme hml hkl hm7 hm2
   go_wp2
   go_roundw
   case rel=>exact ⟨by trivial,k+1,by omega,by go_num,m2,by go_num,Ka.out⟩
   case measure=>simp [intOf];omega
  ·obtain rfl:k=n:=by omega
   have HM:=hid hme
   clear hme
   go_wp2
   go_ret
   exact ⟨by rw [HM.out];rfl,rfl⟩
theorem refSealSame {w:World} {v1 v2:Value} {xs ys:List UInt8} (h1:BAt w v1 xs) (h2:BAt w v2 ys) (hl:xs.length≤140737488351232) :
  Calls Tryz.prog 141 #[v1] w fun e W1=>∃x y,e=.returned (.slice x 4 y)∧Hid (Upd (fun _=>False) w W1)∧
   Hid (Calls Tryz.prog 79 #[.slice x 4 y,v2] W1 fun e W2=>e=.returned (.bool (decide (ys=lowB (crc xs))))∧W2=W1):=by
 refine (refSealed_any h1 hl).mono ?_
 rintro e W1 ⟨v,rfl,hn⟩
 obtain ⟨x,y,hv,-,-⟩:=hn.shape
 have h4:(lowB (crc xs)).length=4:=rfl
 rw [h4] at hv
 subst hv
 refine ⟨x,y,rfl,hn.upd,?_⟩
 refine (refSame_any hn.data.bat (h2.keep hn.upd)).mono ?_
 rintro e W2 ⟨rfl,rfl⟩
 refine ⟨?_,rfl⟩
 congr 2
 rw [Bool.eq_iff_iff]
 simp only [decide_eq_true_eq]
 exact eq_comm
theorem refReadFrame_any {w:World} {v:Value} {b:List UInt8} (hv:BAt w v b) {a:Nat} (ha:a≤b.length) (hl:b.length≤140737488351232) :
  Calls Tryz.prog 85 #[v,.int .i64 a] w fun e w'=>∃v',e=.returned (.tuple #[v',.int .i64 ((readFr b a).2.1:Nat),.int .i64 (readFr b a).2.2])∧NewB w w' v' (readFr b a).1:=by
 have HV:=hid hv
 have Kc:=hid (refOutside_in hv ha)
 obtain ⟨R,hR⟩:∃R,R=readFr b a:=⟨_,rfl⟩
 rw [←hR]
 unfold readFr at hR
 obtain ⟨ao,cap,rfl,h1,h2,h3,h4⟩:=hv
 have HC:=hid h4
 have HR:=hid hR
 clear hR h3 h4
 go_enter Tryz.func85,Tryz.ntmps85
 go_wp2_with fail
 refine Kc.out.mono ?_
 rintro e w' ⟨rfl,hww⟩
 obtain rfl:=hww.symm
 by_cases h8:b.length-a<8
 ·have hR:=HR.out
  rw [if_pos h8] at hR
  have HF:=hid hR
  have h8i:(b.length:Int)-(a:Int)<8:=by omega
  clear hR h8
  go_wp2
  go_ret3
  exact ⟨.slice none 0 0,by rw [HF.out];rfl,by rw [HF.out];exact NewB.nil _⟩
 ·have hR:=HR.out
  rw [if_neg h8] at hR
  have Kd:=hid hR
  have h8i:¬(b.length:Int)-(a:Int)<8:=by omega
  have ha8:a+8≤b.length:=by omega
  obtain ⟨g,o,rfl⟩:∃g o,ao=some ⟨g,o,none⟩:=by
   obtain ⟨g,o,e,-⟩:=HC.out a (by omega)
   exact ⟨g,o,e⟩
  have hud:Upd (fun _=>False) w w.drew:=(Upd.refl _ _).drew
  have Kk:=hid (refSealSame ((HV.out.sub (lo:=a) (n:=4) (by omega)).keep hud) ((HV.out.sub (lo:=a+4) (n:=4) (by omega)).keep hud) (by simp;omega))
  have i0:(0:Int)≤(a:Int):=by omega
  have i1:(a:Int)≤(a:Int)+4:=by omega
  have i2:(a:Int)+4≤(cap:Int):=by omega
  have i3:(a:Int)+4≤(a:Int)+8:=by omega
  have i33:(a:Int)+8≤(cap:Int):=by omega
  have i4:¬cap=a:=by omega
  have i44:¬cap=a+4:=by omega
  have i6:a+4-a=4:=by omega
  have i66:a+8-(a+4)=4:=by omega
  have i8:¬cap-a=0:=by omega
  have i88:¬cap-(a+4)=0:=by omega
  have iw4:IntKind.i64.wrap ((a:Int)+4)=(a:Int)+4:=by rw [IntKind.wrap_i64];omega
  have iw8:IntKind.i64.wrap ((a:Int)+8)=(a:Int)+8:=by rw [IntKind.wrap_i64];omega
  have it4:((a:Int)+4).toNat=a+4:=by omega
  have it8:((a:Int)+8).toNat=a+8:=by omega
  have iz4:(0:Int)≤(a:Int)+4:=by omega
  have iz8:(0:Int)≤(a:Int)+8:=by omega
  clear hR h8 hud
  go_wp2_with fail
  go_region_law (first|(go_simp;go_at_call 141;refine Kk.out.mono ?_;rintro e w1 ⟨x1,y1,rfl,hu1,hsame1⟩)|(go_simp;go_at_call 79;refine hsame1.out.mono ?_;rintro e w2 ⟨rfl,hww⟩;obtain rfl:=hww.symm))
  all_goals
   have Ka:=hid ((Upd.refl (fun _=>False) w).drew.trans hu1.out (fun _ _ e=>e))
   clear it4 it8 iz4 iz8 i1 i2 i3 i33 i4 i44 i6 i66 i8 i88 iw4 hu1 hsame1
   have Kb:=hid (refNumber_any (HV.out.keep Ka.out) (a:=a) (n:=4) (by omega) (by omega) hl)
   by_cases hs:(b.drop (a+4)).take 4=lowB (crc ((b.drop a).take 4))
   ·have hsd:decide ((b.drop (a+4)).take 4=lowB (crc ((b.drop a).take 4)))=true:=by simpa using hs
    rw [hsd]
    have hR:=Kd.out
    rw [if_neg (by simpa using hs)] at hR
    have hnl:=numB_lt ((b.drop a).take 4)
    have h4l:((b.drop a).take 4).length=4:=by simp;omega
    rw [h4l] at hnl
    have hnn:num4 ((b.drop a).take 4)=numB ((b.drop a).take 4):=rfl
    rw [hnn] at hR
    generalize numB ((b.drop a).take 4)=N at Kb hnl hR
    have hNl:N<4294967296:=by omega
    have hNw:IntKind.i64.wrap (N:Int)=(N:Int):=by rw [IntKind.wrap_i64];omega
    have Ke:=hid hR
    clear hR hs hsd hnl h4l hnn
    go_wp2_with fail
    refine Kb.out.mono ?_
    rintro e w2 ⟨rfl,hww⟩
    obtain rfl:=hww.symm
    by_cases hbig:1048576<N
    ·have hR:=Ke.out
     rw [if_pos hbig] at hR
     have HF:=hid hR
     have hbi:(1048576:Int)<(N:Int):=by omega
     clear hR hbig
     go_wp2
     go_ret3
     exact ⟨.slice none 0 0,by rw [HF.out];rfl,by rw [HF.out];exact ⟨.inl ⟨rfl,rfl⟩,fun k e=>(by cases e),Ka.out⟩⟩
    ·have hR:=Ke.out
     rw [if_neg hbig] at hR
     have hbi:¬(1048576:Int)<(N:Int):=by omega
     by_cases hto:b.length-(a+8)<N+4
     ·rw [if_pos hto] at hR
      have HF:=hid hR
      have hti:(b.length:Int)-(a:Int)-8<(N:Int)+4:=by omega
      clear hR hbig hto
      go_wp2
      go_ret3
      exact ⟨.slice none 0 0,by rw [HF.out];rfl,by rw [HF.out];exact ⟨.inl ⟨rfl,rfl⟩,fun k e=>(by cases e),Ka.out⟩⟩
     ·rw [if_neg hto] at hR
      have hti:¬(b.length:Int)-(a:Int)-8<(N:Int)+4:=by omega
      have hfit:a+8+N+4≤b.length:=by omega
      have hpart:=refPart_any (HV.out.keep Ka.out) (lo:=a+8) (hi:=a+8+N) (by omega) (by omega) hl
      rw [show ((a+8:Nat):Int)=(a:Int)+8 from by omega,show ((a+8+N:Nat):Int)=(a:Int)+8+(N:Int) from by omega,show a+8+N-(a+8)=N from by omega] at hpart
      have Kl:=hid hpart
      have Kf:=hid hR
      clear hR hbig hto hpart
      go_wp2_with fail
      refine Kl.out.mono ?_
      rintro e w3 ⟨v3,rfl,hn3⟩
      have Kg:=hid (Ka.out.trans hn3.upd (fun _ _ e=>e))
      have Kh:=hid (hn3.rebase Ka.out)
      obtain ⟨x3,y3,hv3,-,-⟩:=hn3.shape
      have hbl:((b.drop (a+8)).take N).length=N:=by simp;omega
      rw [hbl] at hv3
      subst hv3
      have hud3:Upd (fun _=>False) w w3.drew:=Kg.out.drew
      have Ki:=hid (refSealSame (Kh.out.keep ((Upd.refl (fun _=>False) w3).drew)).data.bat ((HV.out.sub (lo:=a+8+N) (n:=4) (by omega)).keep hud3) (by rw [hbl];omega))
      have i1:(a:Int)+8+(N:Int)≤(a:Int)+12+(N:Int):=by omega
      have i2:(a:Int)+12+(N:Int)≤(cap:Int):=by omega
      have i4:¬cap=a+8+N:=by omega
      have i6:a+12+N-(a+8+N)=4:=by omega
      have i8:¬cap-(a+8+N)=0:=by omega
      have it4:((a:Int)+8+(N:Int)).toNat=a+8+N:=by omega
      have it8:((a:Int)+12+(N:Int)).toNat=a+12+N:=by omega
      have iz4:(0:Int)≤(a:Int)+8+(N:Int):=by omega
      have iz8:(0:Int)≤(a:Int)+12+(N:Int):=by omega
      have iw12:IntKind.i64.wrap ((a:Int)+12)=(a:Int)+12:=by rw [IntKind.wrap_i64];omega
      have iwN:IntKind.i64.wrap ((a:Int)+8+(N:Int))=(a:Int)+8+(N:Int):=by rw [IntKind.wrap_i64];omega
      have iwM:IntKind.i64.wrap ((a:Int)+12+(N:Int))=(a:Int)+12+(N:Int):=by rw [IntKind.wrap_i64];omega
      have i88:¬cap=a+(8+N):=by omega
      clear hn3 hbl hud3
      go_wp2_with fail
      go_region_law (first|(go_simp;go_at_call 141;refine Ki.out.mono ?_;rintro e w4 ⟨x4,y4,rfl,hu4,hsame4⟩)|(go_simp;go_at_call 79;refine hsame4.out.mono ?_;rintro e w5 ⟨rfl,hww⟩;obtain rfl:=hww.symm))
      all_goals
       have Kj:=hid ((Upd.refl (fun _=>False) w3).drew.trans hu4.out (fun _ _ e=>e))
       clear hu4 hsame4
       by_cases hs2:(b.drop (a+8+N)).take 4=lowB (crc ((b.drop (a+8)).take N))
       ·have hsd:decide ((b.drop (a+8+N)).take 4=lowB (crc ((b.drop (a+8)).take N)))=true:=by simpa using hs2
        rw [hsd]
        have hR:=Kf.out
        rw [if_neg (by simpa using hs2)] at hR
        have HF:=hid hR
        have Km:=hid (Kh.out.keep Kj.out)
        have HE:=hid (show ((R.2.1:Nat):Int)=(a:Int)+12+(N:Int)∧R.2.2=0 from by rw [HF.out];exact ⟨by simp only [];omega,rfl⟩)
        clear hR hs2 hsd
        go_wp2
        go_ret3
        exact ⟨_,by rw [HE.out.1,HE.out.2];rfl,by rw [HF.out];exact Km.out⟩
       ·have hsd:decide ((b.drop (a+8+N)).take 4=lowB (crc ((b.drop (a+8)).take N)))=false:=by simpa using hs2
        rw [hsd]
        have hR:=Kf.out
        rw [if_pos hs2] at hR
        have HF:=hid hR
        have Kn:=hid (Kg.out.trans Kj.out (fun _ _ e=>e))
        clear hR hs2 hsd
        go_wp2
        go_ret3
        exact ⟨.slice none 0 0,by rw [HF.out];rfl,by rw [HF.out];exact ⟨.inl ⟨rfl,rfl⟩,fun k e=>(by cases e),Kn.out⟩⟩
   ·have hsd:decide ((b.drop (a+4)).take 4=lowB (crc ((b.drop a).take 4)))=false:=by simpa using hs
    rw [hsd]
    have hR:=Kd.out
    rw [if_pos hs] at hR
    have HF:=hid hR
    clear hR hs hsd
    go_wp2
    go_ret3
    exact ⟨.slice none 0 0,by rw [HF.out];rfl,by rw [HF.out];exact ⟨.inl ⟨rfl,rfl⟩,fun k e=>(by cases e),Ka.out⟩⟩
theorem refOrdered_any {w:World} {v:Value} {b:List UInt8} (hv:BAt w v b) (hl:b.length≤100000000) :
  Calls Tryz.prog 221 #[v] w fun e w'=>∃v',e=.returned v'∧NewB w w' v' (ordB b):=by
 have HV:=hid hv
 obtain ⟨ao0,cap0,rfl,h1,h2,-,-⟩:=hv
 obtain ⟨n,hn⟩:∃n,n=b.length:=⟨_,rfl⟩
 rw [←hn] at h1 hl⊢
 have HN:=hid hn
 clear hn
 go_enter Tryz.func221,Tryz.ntmps221
 go_wp2
 go_loopw [3,4] (fun ov iv wr=>∃k:Nat,k≤n∧iv=.int .i64 k∧∃ao L cap,ov=.slice ao L cap∧NewB w wr (.slice ao L cap) (ordT (b.take k))) (fun _ iv _=>n-(intOf iv).toNat)
 case atStart=>exact ⟨0,Nat.zero_le _,rfl,_,_,_,rfl,NewB.nil w⟩
 case round=>
  obtain ⟨k,hk,rfl,ao,L,cap,rfl,hnew⟩:=hrel
  have hol:=ordT_len (b.take k)
  have htl:(b.take k).length≤k:=by simp;omega
  by_cases hlt:k<n
  ·have hkb:k<b.length:=by rw [←HN.out];exact hlt
   obtain ⟨g,o,rfl,hg,d0⟩:=(HV.out.keep hnew.upd).cell hkb
   have hstep:=ordT_step b k hkb
   generalize hcb:b[k]=c at d0 hstep
   have hc8:=c.toNat_lt
   obtain ⟨ao1,L1,cap1,w1,hr1,hn1⟩:=hnew.put [c] #[.int .u8 (c.toNat:Int)] 1 rfl rfl (by omega)
   obtain ⟨g',o',eg,hg',d1⟩:=(HV.out.keep hn1.upd).cell hkb
   injection eg with eg
   injection eg with eg1 eg2
   subst eg1 eg2
   rw [hcb] at d1
   clear hcb
   by_cases hz:c.toNat=0
   ·rw [if_pos hz] at hstep
    have hzi:((c.toNat:Int)==0)=true:=by simp;omega
    obtain ⟨ao2,L2,cap2,w2,hr2,hn2⟩:=hn1.put [255] #[.int .u8 255] 1 rfl rfl (by simp;omega)
    have Ka:=hid hr1;have Kc:=hid hr2;have Kd:=hid hn2;have Kb:=hid hstep
    clear hr1 hr2 hn1 hn2 hnew hstep hol htl hz
    go_upto_region 6 with (at_builtin;refine wpList_append_run rfl _ _ _ rfl rfl rfl Ka.out ?_)
    go_wp2_with (at_builtin;refine wpList_append_run rfl _ _ _ rfl rfl rfl Kc.out ?_)
    go_roundw
    case rel=>
     refine ⟨k+1,by omega,by go_num,ao2,L2,cap2,rfl,?_⟩
     have h:=Kd.out
     rw [Kb.out]
     rw [List.append_assoc] at h
     exact h
    case measure=>simp [intOf];omega
   ·rw [if_neg hz] at hstep
    have hzi:((c.toNat:Int)==0)=false:=by simp;omega
    have Ka:=hid hr1;have Ke:=hid hn1;have Kb:=hid hstep
    clear hr1 hn1 hnew hstep hol htl hz
    go_wp2_with (at_builtin;refine wpList_append_run rfl _ _ _ rfl rfl rfl Ka.out ?_)
    go_roundw
    case rel=>
     refine ⟨k+1,by omega,by go_num,ao1,L1,cap1,rfl,?_⟩
     rw [Kb.out]
     exact Ke.out
    case measure=>simp [intOf];omega
  ·obtain rfl:k=n:=by omega
   obtain ⟨ao1,L1,cap1,w1,hr1,hn1⟩:=hnew.put [0,1] #[.int .u8 0,.int .u8 1] 2 rfl rfl (by omega)
   have hfin:NewB w w1 (.slice ao1 L1 cap1) (ordB b):=by
    unfold ordB
    rw [show b=b.take k from by rw [HN.out,List.take_length]]
    exact hn1
   have Ka:=hid hr1;have HF:=hid hfin
   clear hr1 hn1 hnew hfin hol htl
   go_wp2_with (at_builtin;refine wpList_append_run rfl _ _ _ rfl rfl rfl Ka.out ?_)
   go_ret
   exact ⟨_,rfl,HF.out⟩
theorem refReadOrdered_any {w:World} {v:Value} {b:List UInt8} (hv:BAt w v b) {a:Nat} (ha:a≤b.length) (hl:b.length≤140737488351232) :
  Calls Tryz.prog 183 #[v,.int .i64 a] w fun e w'=>∃v',e=.returned (.tuple #[v',.int .i64 ((readO b a).2.1:Nat),.int .i64 (readO b a).2.2])∧NewB w w' v' (readO b a).1:=by
 have HV:=hid hv
 have Kc:=hid (refOutside_in hv ha)
 obtain ⟨R,hR⟩:∃R,R=readO b a:=⟨_,rfl⟩
 rw [←hR]
 have HR:=hid hR
 clear hR
 obtain ⟨ao0,cap0,rfl,h1,h2,-,-⟩:=hv
 go_enter Tryz.func183,Tryz.ntmps183
 go_wp2_with fail
 refine Kc.out.mono ?_
 rintro e w' ⟨rfl,hww⟩
 obtain rfl:=hww.symm
 go_wp2
 go_loopw [7,8] (fun ov av wr=>∃p:Nat,p≤b.length∧av=.int .i64 p∧∃acc ao L cap,ov=.slice ao L cap∧NewB w wr (.slice ao L cap) acc∧acc.length≤p∧R=ro (b.drop p) p acc) (fun _ av _=>b.length-(intOf av).toNat)
 case atStart=>exact ⟨a,ha,rfl,[],_,_,_,rfl,NewB.nil _,Nat.zero_le _,HR.out⟩
 case round=>
  obtain ⟨p,hp,rfl,acc,ao,L,cap,rfl,hnew,hal,he⟩:=hrel
  by_cases hend:p<b.length
  ·obtain ⟨g,o,rfl,hg,d0⟩:=(HV.out.keep hnew.upd).cell hend
   have hdrop:b.drop p=b[p]'hend :: b.drop (p+1):=List.drop_eq_getElem_cons hend
   rw [hdrop] at he
   generalize b[p]'hend=c at d0 he
   have hc8:=c.toNat_lt
   clear hdrop
   by_cases hz:c.toNat=0
   ·have hzi:((c.toNat:Int) != 0)=false:=by simp;omega
    by_cases hend2:p+1<b.length
    ·obtain ⟨g',o',eg,-,d1⟩:=(HV.out.keep hnew.upd).cell hend2
     injection eg with eg
     injection eg with eg1 eg2
     subst eg1 eg2
     have hdrop:b.drop (p+1)=b[p+1]'hend2 :: b.drop (p+1+1):=List.drop_eq_getElem_cons hend2
     rw [hdrop] at he
     generalize b[p+1]'hend2=d at d1 he
     have hd8:=d.toNat_lt
     rw [ro,if_neg (by simpa using hz)] at he
     have hne:((p:Int)+1==(b.length:Int))=false:=by simp;omega
     clear hdrop
     by_cases h1d:d.toNat=1
     ·rw [if_pos h1d] at he
      have h1i:((d.toNat:Int)==1)=true:=by simp;omega
      have HF:=hid he;have Kd:=hid hnew
      clear he hnew hz h1d
      go_wp2
      go_ret3
      exact ⟨.slice ao L cap,by rw [HF.out];rfl,by rw [HF.out];exact Kd.out⟩
     ·rw [if_neg h1d] at he
      have h1i:((d.toNat:Int)==1)=false:=by simp;omega
      by_cases h255:d.toNat=255
      ·rw [if_pos h255] at he
       have h255i:((d.toNat:Int) != 255)=false:=by simp;omega
       obtain ⟨ao1,L1,cap1,w1,hr1,hn1⟩:=hnew.put [c] #[.int .u8 0] 1 (by simp [byteV,hz]) rfl (by omega)
       have HE:=hid he;have Ka:=hid hr1;have Kb:=hid hn1
       clear he hnew hz h1d h255 hr1 hn1
       go_wp2_with (at_builtin;refine wpList_append_run rfl _ _ _ rfl rfl rfl Ka.out ?_)
       go_roundw
       case rel=>exact ⟨p+2,by omega,by go_num,acc ++ [c],ao1,L1,cap1,rfl,Kb.out,by simp;omega,HE.out⟩
       case measure=>simp [intOf];omega
      ·rw [if_neg h255] at he
       have h255i:((d.toNat:Int) != 255)=true:=by simp;omega
       have HF:=hid he;have HU:=hid hnew.upd
       clear he hnew hz h1d h255
       go_wp2
       go_ret3
       exact ⟨.slice none 0 0,by rw [HF.out];rfl,by rw [HF.out];exact (NewB.nil _).keep HU.out⟩
    ·have hdn:b.drop (p+1)=[]:=List.drop_eq_nil_of_le (by omega)
     rw [hdn] at he
     have hnei:((p:Int)+1==(b.length:Int))=true:=by simp;omega
     have HF:=hid he;have HU:=hid hnew.upd
     clear he hnew hz hdn
     go_wp2
     go_ret3
     exact ⟨.slice none 0 0,by rw [HF.out];rfl,by rw [HF.out];exact (NewB.nil _).keep HU.out⟩
   ·have hzi:((c.toNat:Int) != 0)=true:=by simp;omega
    have hnx:R=ro (b.drop (p+1)) (p+1) (acc ++ [c]):=by
     rw [he]
     cases hq:b.drop (p+1) with
     | nil=>rfl
     | cons d ds=>rw [ro,if_pos hz]
    obtain ⟨ao1,L1,cap1,w1,hr1,hn1⟩:=hnew.put [c] #[.int .u8 (c.toNat:Int)] 1 rfl rfl (by omega)
    have HE:=hid hnx;have Ka:=hid hr1;have Kb:=hid hn1
    clear he hnx hnew hz hr1 hn1
    go_wp2_with (at_builtin;refine wpList_append_run rfl _ _ _ rfl rfl rfl Ka.out ?_)
    go_roundw
    case rel=>exact ⟨p+1,by omega,by go_num,acc ++ [c],ao1,L1,cap1,rfl,Kb.out,by simp;omega,HE.out⟩
    case measure=>simp [intOf];omega
  ·have hdn:b.drop p=[]:=List.drop_eq_nil_of_le (by omega)
   rw [hdn] at he
   have hge:¬(p:Int)<(b.length:Int):=by omega
   have HF:=hid he;have HU:=hid hnew.upd
   clear he hnew hdn
   go_wp2
   go_ret3
   exact ⟨.slice none 0 0,by rw [HF.out];rfl,by rw [HF.out];exact (NewB.nil _).keep HU.out⟩
theorem numB_ge (l:List UInt8):∀n,n*256^l.length≤l.foldl (fun n c=>256*n+c.toNat) n:=by
 induction l with
 | nil=>intro n;simp
 | cons c l ih=>
  intro n
  refine Nat.le_trans ?_ (ih (256*n+c.toNat))
  rw [List.length_cons,Nat.pow_succ,Nat.mul_comm (256^l.length),←Nat.mul_assoc]
  exact Nat.mul_le_mul_right _ (by omega)
theorem numB_big {l:List UInt8} (hl:l.length=8) (h:127<(l.getD 0 0).toNat):9223372036854775808≤numB l:=by
 match l,hl with
 | c :: cs,hl=>
  have h':127<c.toNat:=h
  have h2:numB (c :: cs)=cs.foldl (fun n c=>256*n+c.toNat) c.toNat:=by simp [numB]
  rw [h2]
  refine Nat.le_trans ?_ (numB_ge cs c.toNat)
  have h3:cs.length=7:=by simpa using hl
  rw [h3]
  omega
theorem refRising_any {w:World} {n:Nat} (hn:n<9223372036854775808) :
  Calls Tryz.prog 232 #[.int .i64 n] w fun e w'=>∃v',e=.returned (.tuple #[v',.int .i64 0])∧NewB w w' v' (eightB n):=by
 have HE:=hid (refEight_any (w:=w) (n:=n) (by omega))
 have h0:¬(n:Int)<0:=by omega
 go_enter Tryz.func232,Tryz.ntmps232
 go_wp2_with fail
 refine HE.out.mono ?_
 rintro e w' ⟨v',rfl,hn2⟩
 have HN:=hid hn2
 clear hn2
 go_wp2
 go_ret2
 exact ⟨_,rfl,HN.out⟩
theorem refFalling_any {w:World} {n:Nat} (hn:n≤9223372036854775807) :
  Calls Tryz.prog 222 #[.int .i64 n] w fun e w'=>∃v',e=.returned (.tuple #[v',.int .i64 0])∧NewB w w' v' (eightB (9223372036854775807-n)):=by
 have HR:=hid (refRising_any (w:=w) (n:=9223372036854775807-n) (by omega))
 have h0:¬(n:Int)<0:=by omega
 have e1:(((9223372036854775807-n:Nat)):Int)=9223372036854775807-(n:Int):=by omega
 rw [e1] at HR
 clear e1
 go_enter Tryz.func222,Tryz.ntmps222
 go_wp2_with fail
 refine HR.out.mono ?_
 rintro e w' ⟨v',rfl,hn2⟩
 have HN:=hid hn2
 clear hn2
 go_wp2
 go_ret2
 exact ⟨_,rfl,HN.out⟩
theorem refReadRising_any {w:World} {v:Value} {b:List UInt8} (hv:BAt w v b) {a:Nat} (ha:a≤b.length) (hl:b.length≤140737488351232) :
  Calls Tryz.prog 204 #[v,.int .i64 a] w fun e w'=>e=.returned (.tuple #[.int .i64 ((readR b a).1:Nat),.int .i64 ((readR b a).2.1:Nat),.int .i64 (readR b a).2.2])∧w'=w:=by
 have HV:=hid hv
 have Kb:=hid (refOutside_in hv ha)
 obtain ⟨R,hR⟩:∃R,R=readR b a:=⟨_,rfl⟩
 rw [←hR]
 unfold readR at hR
 have HR:=hid hR
 clear hR
 obtain ⟨ao,cap,rfl,h1,h2,-,-⟩:=hv
 go_enter Tryz.func204,Tryz.ntmps204
 go_wp2_with fail
 refine Kb.out.mono ?_
 rintro e w' ⟨rfl,hww⟩
 obtain rfl:=hww.symm
 by_cases h8:b.length-a<8
 ·have hR:=HR.out
  rw [if_pos h8] at hR
  have HF:=hid hR
  have h8i:(b.length:Int)-(a:Int)<8:=by omega
  clear hR h8
  go_wp2
  go_ret3
  exact ⟨by rw [HF.out];rfl,rfl⟩
 ·have hR:=HR.out
  rw [if_neg h8] at hR
  have h8i:¬(b.length:Int)-(a:Int)<8:=by omega
  have Ka:=hid (refNumber_any HV.out (a:=a) (n:=8) (by omega) (by omega) hl)
  have hgl:((b.drop a).take 8).getD 0 0=b.getD a 0:=by
   rw [List.getD_eq_getElem?_getD,List.getD_eq_getElem?_getD,List.getElem?_take,if_pos (by omega),List.getElem?_drop];rfl
  have hl8:((b.drop a).take 8).length=8:=by simp;omega
  by_cases hbig:127<(b.getD a 0).toNat
  ·rw [if_pos hbig] at hR
   have hge:=numB_big hl8 (by rw [hgl];exact hbig)
   generalize numB ((b.drop a).take 8)=m at Ka hge
   have hml:(9223372036854775807:Int)<(m:Int):=by omega
   have HF:=hid hR
   clear hR h8 hbig hgl hl8 hge
   go_wp2_with fail
   refine Ka.out.mono ?_
   rintro e w' ⟨rfl,hww⟩
   obtain rfl:=hww.symm
   go_wp2
   go_ret3
   exact ⟨by rw [HF.out];rfl,rfl⟩
  ·rw [if_neg hbig] at hR
   have hlt:=numB_head (l:=(b.drop a).take 8) (k:=8) hl8 (by rw [hgl];omega) (by omega)
   rw [List.take_take,Nat.min_self] at hlt
   generalize numB ((b.drop a).take 8)=m at Ka hlt hR
   have hml:¬(9223372036854775807:Int)<(m:Int):=by omega
   have hmw:IntKind.i64.wrap (m:Int)=(m:Int):=by rw [IntKind.wrap_i64];omega
   have HF:=hid hR
   clear hR h8 hbig hgl hl8
   go_wp2_with fail
   refine Ka.out.mono ?_
   rintro e w' ⟨rfl,hww⟩
   obtain rfl:=hww.symm
   go_wp2
   go_ret3
   exact ⟨by rw [HF.out];rfl,rfl⟩
theorem refReadFalling_any {w:World} {v:Value} {b:List UInt8} (hv:BAt w v b) {a:Nat} (ha:a≤b.length) (hl:b.length≤140737488351232) :
  Calls Tryz.prog 184 #[v,.int .i64 a] w fun e w'=>e=.returned (.tuple #[.int .i64 ((readF b a).1:Nat),.int .i64 ((readF b a).2.1:Nat),.int .i64 (readF b a).2.2])∧w'=w:=by
 have HC:=hid (refReadRising_any hv ha hl)
 obtain ⟨n,p,e,hn,hf,hx,he⟩:∃(n p:Nat) (e:Int),readR b a=(n,p,e)∧readF b a=(if e=0 then 9223372036854775807-n else 0,p,e)∧(e=0→n≤9223372036854775807)∧(e≠0→p=0):=by
  unfold readR readF
  split
  ·exact ⟨_,_,_,rfl,rfl,by decide,by simp⟩
  ·split
   ·exact ⟨_,_,_,rfl,rfl,by decide,by simp⟩
   ·rename_i h1 h2
    refine ⟨_,_,_,rfl,rfl,fun _=>?_,by simp⟩
    have hgl:((b.drop a).take 8).getD 0 0=b.getD a 0:=by
     rw [List.getD_eq_getElem?_getD,List.getD_eq_getElem?_getD,List.getElem?_take,if_pos (by omega),List.getElem?_drop];rfl
    have:=numB_head (l:=(b.drop a).take 8) (k:=8) (by simp;omega) (by rw [hgl];omega) (by omega)
    rw [List.take_take,Nat.min_self] at this
    omega
 rw [hn] at HC
 rw [hf]
 obtain ⟨n2,hn2⟩:∃n2,n2=if e=0 then 9223372036854775807-n else 0:=⟨_,rfl⟩
 rw [←hn2]
 have Ka:=hid hn2
 clear hn2 hf hn
 go_enter Tryz.func184,Tryz.ntmps184
 go_wp2_with fail
 refine HC.out.mono ?_
 rintro e' w' ⟨rfl,hww⟩
 obtain rfl:=hww.symm
 by_cases h0:e=0
 ·have hx2:=hx h0
  have e1:(n2:Int)=9223372036854775807-(n:Int):=by have:=Ka.out;rw [if_pos h0] at this;omega
  subst h0
  have Kb:=hid e1
  clear hx he e1
  go_wp2
  go_ret3
  exact ⟨by rw [Kb.out];rfl,by trivial⟩
 ·have h0i:(e != 0)=true:=by simp;exact h0
  have HP:=hid (he h0)
  have hz:n2=0:=by have:=Ka.out;rwa [if_neg h0] at this
  have HZ:=hid hz
  clear hx he hz h0
  go_wp2
  go_ret3
  exact ⟨by rw [HZ.out,HP.out];rfl,by trivial⟩
theorem ref2_out {w:World} {n lo hi:Int} (h:n<lo∨hi<n):Calls Tryz.prog 220 #[.int .i64 n,.int .i64 lo,.int .i64 hi] w fun e w'=>e=.returned (.bool true)∧w'=w:=by
 by_cases h1:n<lo
 ·clear h
  go_enter Tryz.func220,Tryz.ntmps220
  go_wp2
  go_ret
  exact ⟨rfl,rfl⟩
 ·have h2:hi<n:=h.resolve_left h1
  clear h
  go_enter Tryz.func220,Tryz.ntmps220
  go_wp2
  go_ret
  exact ⟨rfl,rfl⟩
theorem ref2_in {w:World} {n lo hi:Int} (h:¬(n<lo∨hi<n)):Calls Tryz.prog 220 #[.int .i64 n,.int .i64 lo,.int .i64 hi] w fun e w'=>e=.returned (.bool false)∧w'=w:=by
 have h1:¬n<lo:=fun e=>h (.inl e)
 have h2:¬hi<n:=fun e=>h (.inr e)
 clear h
 go_enter Tryz.func220,Tryz.ntmps220
 go_wp2
 go_ret
 exact ⟨rfl,rfl⟩
theorem refCheck2_any {w:World} {v:Value} {e:EntA} (hv:EntIs v e) :
  Calls Tryz.prog 205 #[v] w fun x w'=>x=.returned (.int .i64 e.bad)∧Upd (fun _=>False) w w':=by
 obtain ⟨a1,c1,a2,c2,rfl⟩:=hv
 have HU:=hid ((Upd.refl (fun _=>False) w).alloc (.cells #[.slice a1 e.row.length c1,.int .i64 e.fam,.slice a2 e.qual.length c2,.int .i64 e.ts,.int .i64 e.seq,.int .i64 e.kind,.slice none 0 0] 215))
 obtain ⟨R,hR⟩:∃R,R=e.bad:=⟨_,rfl⟩
 rw [←hR]
 unfold EntA.bad at hR
 obtain ⟨row,fam,qual,ts,seq,kind⟩:=e
 simp only at hR HU⊢
 generalize row.length=nr at hR HU⊢
 generalize qual.length=nq at hR HU⊢
 by_cases h1:nr<1∨256<nr
 ·rw [if_pos h1] at hR
  have Ka:=hid (ref2_out (w:=(w.alloc (.cells #[.slice a1 nr c1,.int .i64 fam,.slice a2 nq c2,.int .i64 ts,.int .i64 seq,.int .i64 kind,.slice none 0 0] 215))) (n:=(nr:Int)) (lo:=1) (hi:=256) (by omega))
  have HF:=hid hR
  clear hR
  go_enter Tryz.func205,Tryz.ntmps205
  go_wp2_with fail
  refine Ka.out.mono ?_
  rintro x w' ⟨rfl,hww⟩
  subst hww
  go_wp2
  go_ret
  exact ⟨by rw [HF.out];rfl,HU.out⟩
 ·rw [if_neg h1] at hR
  by_cases h2:fam<0∨7<fam
  ·rw [if_pos h2] at hR
   have Ka:=hid (ref2_in (w:=(w.alloc (.cells #[.slice a1 nr c1,.int .i64 fam,.slice a2 nq c2,.int .i64 ts,.int .i64 seq,.int .i64 kind,.slice none 0 0] 215))) (n:=(nr:Int)) (lo:=1) (hi:=256) (by omega))
   have Kb:=hid (ref2_out (w:=(w.alloc (.cells #[.slice a1 nr c1,.int .i64 fam,.slice a2 nq c2,.int .i64 ts,.int .i64 seq,.int .i64 kind,.slice none 0 0] 215))) (n:=fam) (lo:=0) (hi:=7) (by omega))
   have HF:=hid hR
   clear hR
   go_enter Tryz.func205,Tryz.ntmps205
   go_wp2_with fail
   refine Ka.out.mono ?_
   rintro x w' ⟨rfl,hww⟩
   subst hww
   go_wp2_with fail
   refine Kb.out.mono ?_
   rintro x w' ⟨rfl,hww⟩
   subst hww
   go_wp2
   go_ret
   exact ⟨by rw [HF.out];rfl,HU.out⟩
  ·rw [if_neg h2] at hR
   by_cases h3:256<nq∨(kind=5∧0<nq)
   ·rw [if_pos h3] at hR
    by_cases g1:256<nq
    ·have g1i:(256:Int)<(nq:Int):=by omega
     have Ka:=hid (ref2_in (w:=(w.alloc (.cells #[.slice a1 nr c1,.int .i64 fam,.slice a2 nq c2,.int .i64 ts,.int .i64 seq,.int .i64 kind,.slice none 0 0] 215))) (n:=(nr:Int)) (lo:=1) (hi:=256) (by omega))
     have Kb:=hid (ref2_in (w:=(w.alloc (.cells #[.slice a1 nr c1,.int .i64 fam,.slice a2 nq c2,.int .i64 ts,.int .i64 seq,.int .i64 kind,.slice none 0 0] 215))) (n:=fam) (lo:=0) (hi:=7) (by omega))
     have HF:=hid hR
     clear hR
     go_enter Tryz.func205,Tryz.ntmps205
     go_wp2_with fail
     refine Ka.out.mono ?_
     rintro x w' ⟨rfl,hww⟩
     subst hww
     go_wp2_with fail
     refine Kb.out.mono ?_
     rintro x w' ⟨rfl,hww⟩
     subst hww
     go_wp2
     go_ret
     exact ⟨by rw [HF.out];rfl,HU.out⟩
    ·have g1i:¬(256:Int)<(nq:Int):=by omega
     obtain ⟨g2,g3⟩:=h3.resolve_left g1
     have g3i:(0:Int)<(nq:Int):=by omega
     subst g2
     have Ka:=hid (ref2_in (w:=(w.alloc (.cells #[.slice a1 nr c1,.int .i64 fam,.slice a2 nq c2,.int .i64 ts,.int .i64 seq,.int .i64 5,.slice none 0 0] 215))) (n:=(nr:Int)) (lo:=1) (hi:=256) (by omega))
     have Kb:=hid (ref2_in (w:=(w.alloc (.cells #[.slice a1 nr c1,.int .i64 fam,.slice a2 nq c2,.int .i64 ts,.int .i64 seq,.int .i64 5,.slice none 0 0] 215))) (n:=fam) (lo:=0) (hi:=7) (by omega))
     clear h3
     have HF:=hid hR
     clear hR
     go_enter Tryz.func205,Tryz.ntmps205
     go_wp2_with fail
     refine Ka.out.mono ?_
     rintro x w' ⟨rfl,hww⟩
     subst hww
     go_wp2_with fail
     refine Kb.out.mono ?_
     rintro x w' ⟨rfl,hww⟩
     subst hww
     go_wp2
     go_ret
     exact ⟨by rw [HF.out];rfl,HU.out⟩
   ·rw [if_neg h3] at hR
    have g1i:¬(256:Int)<(nq:Int):=by omega
    by_cases g2:kind=5
    ·subst g2
     have g3:nq=0:=by omega
     have g3i:¬(0:Int)<(nq:Int):=by omega
     clear h3
     by_cases h4:ts<1∨1099511627776<ts
     ·rw [if_pos h4] at hR
      have Ka:=hid (ref2_in (w:=(w.alloc (.cells #[.slice a1 nr c1,.int .i64 fam,.slice a2 nq c2,.int .i64 ts,.int .i64 seq,.int .i64 5,.slice none 0 0] 215))) (n:=(nr:Int)) (lo:=1) (hi:=256) (by omega))
      have Kb:=hid (ref2_in (w:=(w.alloc (.cells #[.slice a1 nr c1,.int .i64 fam,.slice a2 nq c2,.int .i64 ts,.int .i64 seq,.int .i64 5,.slice none 0 0] 215))) (n:=fam) (lo:=0) (hi:=7) (by omega))
      have Kc:=hid (ref2_out (w:=(w.alloc (.cells #[.slice a1 nr c1,.int .i64 fam,.slice a2 nq c2,.int .i64 ts,.int .i64 seq,.int .i64 5,.slice none 0 0] 215))) (n:=ts) (lo:=1) (hi:=1099511627776) (by omega))
      try subst g3
      have HF:=hid hR
      clear hR
      go_enter Tryz.func205,Tryz.ntmps205
      go_wp2_with fail
      refine Ka.out.mono ?_
      rintro x w' ⟨rfl,hww⟩
      subst hww
      go_wp2_with fail
      refine Kb.out.mono ?_
      rintro x w' ⟨rfl,hww⟩
      subst hww
      go_wp2_with fail
      refine Kc.out.mono ?_
      rintro x w' ⟨rfl,hww⟩
      subst hww
      go_wp2
      go_ret
      exact ⟨by rw [HF.out];rfl,HU.out⟩
     ·rw [if_neg h4] at hR
      by_cases h5:seq<0∨17592186044431<seq
      ·rw [if_pos h5] at hR
       have Ka:=hid (ref2_in (w:=(w.alloc (.cells #[.slice a1 nr c1,.int .i64 fam,.slice a2 nq c2,.int .i64 ts,.int .i64 seq,.int .i64 5,.slice none 0 0] 215))) (n:=(nr:Int)) (lo:=1) (hi:=256) (by omega))
       have Kb:=hid (ref2_in (w:=(w.alloc (.cells #[.slice a1 nr c1,.int .i64 fam,.slice a2 nq c2,.int .i64 ts,.int .i64 seq,.int .i64 5,.slice none 0 0] 215))) (n:=fam) (lo:=0) (hi:=7) (by omega))
       have Kc:=hid (ref2_in (w:=(w.alloc (.cells #[.slice a1 nr c1,.int .i64 fam,.slice a2 nq c2,.int .i64 ts,.int .i64 seq,.int .i64 5,.slice none 0 0] 215))) (n:=ts) (lo:=1) (hi:=1099511627776) (by omega))
       have Kd:=hid (ref2_out (w:=(w.alloc (.cells #[.slice a1 nr c1,.int .i64 fam,.slice a2 nq c2,.int .i64 ts,.int .i64 seq,.int .i64 5,.slice none 0 0] 215))) (n:=seq) (lo:=0) (hi:=17592186044431) (by omega))
       try subst g3
       have HF:=hid hR
       clear hR
       go_enter Tryz.func205,Tryz.ntmps205
       go_wp2_with fail
       refine Ka.out.mono ?_
       rintro x w' ⟨rfl,hww⟩
       subst hww
       go_wp2_with fail
       refine Kb.out.mono ?_
       rintro x w' ⟨rfl,hww⟩
       subst hww
       go_wp2_with fail
       refine Kc.out.mono ?_
       rintro x w' ⟨rfl,hww⟩
       subst hww
       go_wp2_with fail
       refine Kd.out.mono ?_
       rintro x w' ⟨rfl,hww⟩
       subst hww
       go_wp2
       go_ret
       exact ⟨by rw [HF.out];rfl,HU.out⟩
      ·rw [if_neg h5] at hR
       by_cases h6:(5:Int)<1∨(5:Int)<5
       ·rw [if_pos h6] at hR
        omega
       ·rw [if_neg h6] at hR
        have Ka:=hid (ref2_in (w:=(w.alloc (.cells #[.slice a1 nr c1,.int .i64 fam,.slice a2 nq c2,.int .i64 ts,.int .i64 seq,.int .i64 5,.slice none 0 0] 215))) (n:=(nr:Int)) (lo:=1) (hi:=256) (by omega))
        have Kb:=hid (ref2_in (w:=(w.alloc (.cells #[.slice a1 nr c1,.int .i64 fam,.slice a2 nq c2,.int .i64 ts,.int .i64 seq,.int .i64 5,.slice none 0 0] 215))) (n:=fam) (lo:=0) (hi:=7) (by omega))
        have Kc:=hid (ref2_in (w:=(w.alloc (.cells #[.slice a1 nr c1,.int .i64 fam,.slice a2 nq c2,.int .i64 ts,.int .i64 seq,.int .i64 5,.slice none 0 0] 215))) (n:=ts) (lo:=1) (hi:=1099511627776) (by omega))
        have Kd:=hid (ref2_in (w:=(w.alloc (.cells #[.slice a1 nr c1,.int .i64 fam,.slice a2 nq c2,.int .i64 ts,.int .i64 seq,.int .i64 5,.slice none 0 0] 215))) (n:=seq) (lo:=0) (hi:=17592186044431) (by omega))
        have Ke:=hid (ref2_in (w:=(w.alloc (.cells #[.slice a1 nr c1,.int .i64 fam,.slice a2 nq c2,.int .i64 ts,.int .i64 seq,.int .i64 5,.slice none 0 0] 215))) (n:=5) (lo:=1) (hi:=5) (by omega))
        try subst g3
        have HF:=hid hR
        clear hR
        go_enter Tryz.func205,Tryz.ntmps205
        go_wp2_with fail
        refine Ka.out.mono ?_
        rintro x w' ⟨rfl,hww⟩
        subst hww
        go_wp2_with fail
        refine Kb.out.mono ?_
        rintro x w' ⟨rfl,hww⟩
        subst hww
        go_wp2_with fail
        refine Kc.out.mono ?_
        rintro x w' ⟨rfl,hww⟩
        subst hww
        go_wp2_with fail
        refine Kd.out.mono ?_
        rintro x w' ⟨rfl,hww⟩
        subst hww
        go_wp2_with fail
        refine Ke.out.mono ?_
        rintro x w' ⟨rfl,hww⟩
        subst hww
        go_wp2
        go_ret
        exact ⟨by rw [HF.out];rfl,HU.out⟩
    ·have g2i:(kind==5)=false:=by simp;exact g2
     clear h3
     by_cases h4:ts<1∨1099511627776<ts
     ·rw [if_pos h4] at hR
      have Ka:=hid (ref2_in (w:=(w.alloc (.cells #[.slice a1 nr c1,.int .i64 fam,.slice a2 nq c2,.int .i64 ts,.int .i64 seq,.int .i64 kind,.slice none 0 0] 215))) (n:=(nr:Int)) (lo:=1) (hi:=256) (by omega))
      have Kb:=hid (ref2_in (w:=(w.alloc (.cells #[.slice a1 nr c1,.int .i64 fam,.slice a2 nq c2,.int .i64 ts,.int .i64 seq,.int .i64 kind,.slice none 0 0] 215))) (n:=fam) (lo:=0) (hi:=7) (by omega))
      have Kc:=hid (ref2_out (w:=(w.alloc (.cells #[.slice a1 nr c1,.int .i64 fam,.slice a2 nq c2,.int .i64 ts,.int .i64 seq,.int .i64 kind,.slice none 0 0] 215))) (n:=ts) (lo:=1) (hi:=1099511627776) (by omega))
      try subst g3
      have HF:=hid hR
      clear hR
      go_enter Tryz.func205,Tryz.ntmps205
      go_wp2_with fail
      refine Ka.out.mono ?_
      rintro x w' ⟨rfl,hww⟩
      subst hww
      go_wp2_with fail
      refine Kb.out.mono ?_
      rintro x w' ⟨rfl,hww⟩
      subst hww
      go_wp2_with fail
      refine Kc.out.mono ?_
      rintro x w' ⟨rfl,hww⟩
      subst hww
      go_wp2
      go_ret
      exact ⟨by rw [HF.out];rfl,HU.out⟩
     ·rw [if_neg h4] at hR
      by_cases h5:seq<0∨17592186044431<seq
      ·rw [if_pos h5] at hR
       have Ka:=hid (ref2_in (w:=(w.alloc (.cells #[.slice a1 nr c1,.int .i64 fam,.slice a2 nq c2,.int .i64 ts,.int .i64 seq,.int .i64 kind,.slice none 0 0] 215))) (n:=(nr:Int)) (lo:=1) (hi:=256) (by omega))
       have Kb:=hid (ref2_in (w:=(w.alloc (.cells #[.slice a1 nr c1,.int .i64 fam,.slice a2 nq c2,.int .i64 ts,.int .i64 seq,.int .i64 kind,.slice none 0 0] 215))) (n:=fam) (lo:=0) (hi:=7) (by omega))
       have Kc:=hid (ref2_in (w:=(w.alloc (.cells #[.slice a1 nr c1,.int .i64 fam,.slice a2 nq c2,.int .i64 ts,.int .i64 seq,.int .i64 kind,.slice none 0 0] 215))) (n:=ts) (lo:=1) (hi:=1099511627776) (by omega))
       have Kd:=hid (ref2_out (w:=(w.alloc (.cells #[.slice a1 nr c1,.int .i64 fam,.slice a2 nq c2,.int .i64 ts,.int .i64 seq,.int .i64 kind,.slice none 0 0] 215))) (n:=seq) (lo:=0) (hi:=17592186044431) (by omega))
       try subst g3
       have HF:=hid hR
       clear hR
       go_enter Tryz.func205,Tryz.ntmps205
       go_wp2_with fail
       refine Ka.out.mono ?_
       rintro x w' ⟨rfl,hww⟩
       subst hww
       go_wp2_with fail
       refine Kb.out.mono ?_
       rintro x w' ⟨rfl,hww⟩
       subst hww
       go_wp2_with fail
       refine Kc.out.mono ?_
       rintro x w' ⟨rfl,hww⟩
       subst hww
       go_wp2_with fail
       refine Kd.out.mono ?_
       rintro x w' ⟨rfl,hww⟩
       subst hww
       go_wp2
       go_ret
       exact ⟨by rw [HF.out];rfl,HU.out⟩
      ·rw [if_neg h5] at hR
       by_cases h6:kind<1∨5<kind
       ·rw [if_pos h6] at hR
        have Ka:=hid (ref2_in (w:=(w.alloc (.cells #[.slice a1 nr c1,.int .i64 fam,.slice a2 nq c2,.int .i64 ts,.int .i64 seq,.int .i64 kind,.slice none 0 0] 215))) (n:=(nr:Int)) (lo:=1) (hi:=256) (by omega))
        have Kb:=hid (ref2_in (w:=(w.alloc (.cells #[.slice a1 nr c1,.int .i64 fam,.slice a2 nq c2,.int .i64 ts,.int .i64 seq,.int .i64 kind,.slice none 0 0] 215))) (n:=fam) (lo:=0) (hi:=7) (by omega))
        have Kc:=hid (ref2_in (w:=(w.alloc (.cells #[.slice a1 nr c1,.int .i64 fam,.slice a2 nq c2,.int .i64 ts,.int .i64 seq,.int .i64 kind,.slice none 0 0] 215))) (n:=ts) (lo:=1) (hi:=1099511627776) (by omega))
        have Kd:=hid (ref2_in (w:=(w.alloc (.cells #[.slice a1 nr c1,.int .i64 fam,.slice a2 nq c2,.int .i64 ts,.int .i64 seq,.int .i64 kind,.slice none 0 0] 215))) (n:=seq) (lo:=0) (hi:=17592186044431) (by omega))
        have Ke:=hid (ref2_out (w:=(w.alloc (.cells #[.slice a1 nr c1,.int .i64 fam,.slice a2 nq c2,.int .i64 ts,.int .i64 seq,.int .i64 kind,.slice none 0 0] 215))) (n:=kind) (lo:=1) (hi:=5) (by omega))
        have HF:=hid hR
        clear hR
        go_enter Tryz.func205,Tryz.ntmps205
        go_wp2_with fail
        refine Ka.out.mono ?_
        rintro x w' ⟨rfl,hww⟩
        subst hww
        go_wp2_with fail
        refine Kb.out.mono ?_
        rintro x w' ⟨rfl,hww⟩
        subst hww
        go_wp2_with fail
        refine Kc.out.mono ?_
        rintro x w' ⟨rfl,hww⟩
        subst hww
        go_wp2_with fail
        refine Kd.out.mono ?_
        rintro x w' ⟨rfl,hww⟩
        subst hww
        go_wp2_with fail
        refine Ke.out.mono ?_
        rintro x w' ⟨rfl,hww⟩
        subst hww
        go_wp2
        go_ret
        exact ⟨by rw [HF.out];rfl,HU.out⟩
       ·rw [if_neg h6] at hR
        by_cases g4:kind=1
        ·have Ke:=hid (ref2_in (w:=(w.alloc (.cells #[.slice a1 nr c1,.int .i64 fam,.slice a2 nq c2,.int .i64 ts,.int .i64 seq,.int .i64 kind,.slice none 0 0] 215))) (n:=kind) (lo:=1) (hi:=5) (by omega))
         have Ka:=hid (ref2_in (w:=(w.alloc (.cells #[.slice a1 nr c1,.int .i64 fam,.slice a2 nq c2,.int .i64 ts,.int .i64 seq,.int .i64 kind,.slice none 0 0] 215))) (n:=(nr:Int)) (lo:=1) (hi:=256) (by omega))
         have Kb:=hid (ref2_in (w:=(w.alloc (.cells #[.slice a1 nr c1,.int .i64 fam,.slice a2 nq c2,.int .i64 ts,.int .i64 seq,.int .i64 kind,.slice none 0 0] 215))) (n:=fam) (lo:=0) (hi:=7) (by omega))
         have Kc:=hid (ref2_in (w:=(w.alloc (.cells #[.slice a1 nr c1,.int .i64 fam,.slice a2 nq c2,.int .i64 ts,.int .i64 seq,.int .i64 kind,.slice none 0 0] 215))) (n:=ts) (lo:=1) (hi:=1099511627776) (by omega))
         have Kd:=hid (ref2_in (w:=(w.alloc (.cells #[.slice a1 nr c1,.int .i64 fam,.slice a2 nq c2,.int .i64 ts,.int .i64 seq,.int .i64 kind,.slice none 0 0] 215))) (n:=seq) (lo:=0) (hi:=17592186044431) (by omega))
         have Ke:=hid (ref2_in (w:=(w.alloc (.cells #[.slice a1 nr c1,.int .i64 fam,.slice a2 nq c2,.int .i64 ts,.int .i64 seq,.int .i64 kind,.slice none 0 0] 215))) (n:=kind) (lo:=1) (hi:=5) (by omega))
         subst g4
         have HF:=hid hR
         clear hR
         go_enter Tryz.func205,Tryz.ntmps205
         go_wp2_with fail
         refine Ka.out.mono ?_
         rintro x w' ⟨rfl,hww⟩
         subst hww
         go_wp2_with fail
         refine Kb.out.mono ?_
         rintro x w' ⟨rfl,hww⟩
         subst hww
         go_wp2_with fail
         refine Kc.out.mono ?_
         rintro x w' ⟨rfl,hww⟩
         subst hww
         go_wp2_with fail
         refine Kd.out.mono ?_
         rintro x w' ⟨rfl,hww⟩
         subst hww
         go_wp2_with fail
         refine Ke.out.mono ?_
         rintro x w' ⟨rfl,hww⟩
         subst hww
         go_wp2
         go_ret
         exact ⟨by rw [HF.out];rfl,HU.out⟩
        ·have g4i:(kind==1)=false:=by simp;exact g4
         have Ka:=hid (ref2_in (w:=(w.alloc (.cells #[.slice a1 nr c1,.int .i64 fam,.slice a2 nq c2,.int .i64 ts,.int .i64 seq,.int .i64 kind,.slice none 0 0] 215))) (n:=(nr:Int)) (lo:=1) (hi:=256) (by omega))
         have Kb:=hid (ref2_in (w:=(w.alloc (.cells #[.slice a1 nr c1,.int .i64 fam,.slice a2 nq c2,.int .i64 ts,.int .i64 seq,.int .i64 kind,.slice none 0 0] 215))) (n:=fam) (lo:=0) (hi:=7) (by omega))
         have Kc:=hid (ref2_in (w:=(w.alloc (.cells #[.slice a1 nr c1,.int .i64 fam,.slice a2 nq c2,.int .i64 ts,.int .i64 seq,.int .i64 kind,.slice none 0 0] 215))) (n:=ts) (lo:=1) (hi:=1099511627776) (by omega))
         have Kd:=hid (ref2_in (w:=(w.alloc (.cells #[.slice a1 nr c1,.int .i64 fam,.slice a2 nq c2,.int .i64 ts,.int .i64 seq,.int .i64 kind,.slice none 0 0] 215))) (n:=seq) (lo:=0) (hi:=17592186044431) (by omega))
         have Ke:=hid (ref2_in (w:=(w.alloc (.cells #[.slice a1 nr c1,.int .i64 fam,.slice a2 nq c2,.int .i64 ts,.int .i64 seq,.int .i64 kind,.slice none 0 0] 215))) (n:=kind) (lo:=1) (hi:=5) (by omega))
         have HF:=hid hR
         clear hR
         go_enter Tryz.func205,Tryz.ntmps205
         go_wp2_with fail
         refine Ka.out.mono ?_
         rintro x w' ⟨rfl,hww⟩
         subst hww
         go_wp2_with fail
         refine Kb.out.mono ?_
         rintro x w' ⟨rfl,hww⟩
         subst hww
         go_wp2_with fail
         refine Kc.out.mono ?_
         rintro x w' ⟨rfl,hww⟩
         subst hww
         go_wp2_with fail
         refine Kd.out.mono ?_
         rintro x w' ⟨rfl,hww⟩
         subst hww
         go_wp2_with fail
         refine Ke.out.mono ?_
         rintro x w' ⟨rfl,hww⟩
         subst hww
         go_wp2
         go_ret
         exact ⟨by rw [HF.out];rfl,HU.out⟩
end Go.Proofs.YtgaidmohdhaonaaGreatDoor
