/-
  A region that draws its order: a load may be taken first although the region's last operation, which waits for it, writes its cell.
  Package manifest, walked: Decode.
-/
import Derived.Test.YtgaidmohdhaonaaGreatDoorGE
import Derived.Deep.RegionHeld3
import Derived.Test.YtgaidmohdhaonaaGreatDoorYG
set_option linter.unusedVariables false
set_option linter.unusedSimpArgs false
set_option linter.unnecessarySimpa false
set_option linter.unusedSectionVars false
set_option maxRecDepth 100000
set_option maxHeartbeats 12800000
namespace Go.Proofs.YtgaidmohdhaonaaGreatDoor
open Go
section
variable {P:Program} {ops:Array Oper} {Q:Exit→Act→World→Prop} {md:Region.Mode} {S:World→Prop} {z:Nat}
def wpAnyL (P:Program) (md:Region.Mode) (ops:Array Oper) (Q:Exit→Act→World→Prop) (S:World→Prop) (z:Nat):Nat→Array Bool→Act→World→Prop
 | 0,listed,a,w=>Region.ready md ops listed=[]∧Q .normal a w
 | fuel+1,listed,a,w=>
  (Region.ready md ops listed=[]→Q .normal a w)∧
  ∀i∈Region.ready md ops listed,wpOp P ops Q i (fun a' w'=>(i≠z→S w')∧wpAnyL P md ops Q S z fuel (listed.setIfInBounds i true) a' w') a w
theorem wpAny_of_l:∀(fuel:Nat) (listed:Array Bool) (a:Act) (w:World),wpAnyL P md ops Q S z fuel listed a w→wpAny P md ops Q fuel listed a w
 | 0,_,_,_,h=>h
 | fuel+1,_,_,_,h=>⟨h.1,fun i hi=>wpOp_mono (fun a' w' h'=>wpAny_of_l fuel _ a' w' h'.2) (h.2 i hi)⟩
def lateB (md:Region.Mode) (ops:Array Oper) (listed:Array Bool) (i:Nat) (late:List Nat):Bool:=
 late.all fun k=>!listed.getD k true&&(match ops[k]? with|some o=>o.after.any (fun e=>Region.binds md e&&(e.on==i || late.contains e.on))|none=>false)
theorem lateB_not_ready {i j:Nat} {listed:Array Bool} {late:List Nat} (h:lateB md ops listed i late=true) (hi:listed.getD i true=false) (hj:j∈Region.ready md ops listed):j∉late:=by
 intro hjl
 have hun:∀k∈late,listed.getD k true=false:=by
  intro k hk
  have:=List.all_eq_true.1 h k hk
  simp only [Bool.and_eq_true] at this
  simpa using this.1
 have h1:=List.all_eq_true.1 h j hjl
 obtain ⟨-,o,ho,hall⟩:=mem_ready.1 hj
 simp only [ho,Bool.and_eq_true] at h1
 obtain ⟨-,h2⟩:=h1
 obtain ⟨e,he,hb⟩:=Array.any_eq_true'.1 h2
 simp only [Bool.and_eq_true,Bool.or_eq_true,beq_iff_eq,List.contains_iff_mem] at hb
 have h3:=hall e he hb.1
 have key:∀k,listed.getD k true=false→listed.getD k false=true→False:=by
  intro k a b
  rcases Nat.lt_or_ge k listed.size with h'|h'
  ·simp [h'] at a b;rw [a] at b;cases b
  ·simp [Array.getElem?_eq_none h'] at b
 rcases hb.2 with e1|e1
 ·rw [e1] at h3;exact key _ hi h3
 ·exact key _ (hun _ e1) h3
theorem lateB_set {i j:Nat} {listed:Array Bool} {late:List Nat} (h:lateB md ops listed i late=true) (hj:j∉late):lateB md ops (listed.setIfInBounds j true) i late=true:=by
 refine List.all_eq_true.2 fun k hk=>?_
 have h1:=List.all_eq_true.1 h k hk
 have hne:j≠k:=fun e=>hj (e ▸ hk)
 rw [getD_set_ne true hne]
 exact h1
theorem wpAnyL_first {i:Nat} {oi:Oper} {v:Value} {late:List Nat} (hi:ops[i]? = some oi) (hsel:∀(j:Nat) (o:Oper) cs b,ops[j]? = some o→o.op≠.select cs b)
  (hQ:∀c a w,Q (.panic c) (a.put oi.dst v) w→Q (.panic c) a w) (hz:z∈late) :
  ∀(fuel:Nat) (listed:Array Bool) (a:Act) (w:World),
   (∀j oj,ops[j]? = some oj→j≠i→listed.getD j true=false→(∀e∈oj.after,Region.binds md e=true→e.on≠i)→oi.apart ops oj=true)→
   i∈Region.ready md ops listed→lateB md ops listed i late=true→YieldsIf P ops S oi v a→S w→
   wpAnyL P md ops Q S z fuel (listed.setIfInBounds i true) (a.put oi.dst v) w→wpAnyL P md ops Q S z (fuel+1) listed a w:=by
 intro fuel
 induction fuel with
 | zero=>
  intro listed a w _ hr _ hy hS H
  refine ⟨fun h=>(by rw [h] at hr;cases hr),fun j hj=>?_⟩
  by_cases hji:j=i
  ·subst hji;exact hy.wpOp hi hS ⟨fun _=>hS,H⟩
  ·have:=ready_mono hj hji
   rw [H.1] at this
   cases this
 | succ fuel ih=>
  intro listed a w hfree hr hlate hy hS H
  refine ⟨fun h=>(by rw [h] at hr;cases hr),fun j hj=>?_⟩
  by_cases hji:j=i
  ·subst hji;exact hy.wpOp hi hS ⟨fun _=>hS,H⟩
  ·have hjl:=lateB_not_ready hlate (mem_ready.1 hr).1 hj
   have hjz:j≠z:=fun e=>hjl (e ▸ hz)
   have h1:=H.2 j (ready_mono hj hji)
   obtain ⟨hjun,oj,hoj,hall⟩:=mem_ready.1 hj
   have hnot:∀e∈oj.after,Region.binds md e=true→e.on≠i:=fun e he hb heq=>by
    have h1:=hall e he hb
    have h0:=(mem_ready.1 hr).1
    rw [heq] at h1
    rcases Nat.lt_or_ge i listed.size with h'|h'
    ·simp [h'] at h0 h1;rw [h0] at h1;cases h1
    ·simp [Array.getElem?_eq_none h'] at h1
   have h2:=wpOp_putIf hoj (hfree j oj hoj hji hjun hnot) (fun cs b=>hsel i oi cs b hi) (fun cs b=>hsel j oj cs b hoj) hQ hy h1
   have hfree':∀k ok,ops[k]? = some ok→k≠i→(listed.setIfInBounds j true).getD k true=false→
     (∀e∈ok.after,Region.binds md e=true→e.on≠i)→oi.apart ops ok=true:=fun k ok hk hki hun hno=>by
    refine hfree k ok hk hki ?_ hno
    by_cases hjk:j=k
    ·subst hjk;exact hjun
    ·rw [getD_set_ne true hjk] at hun;exact hun
   refine wpOp_mono (fun a' w' h3=>⟨fun _=>h3.2.1 hjz,ih (listed.setIfInBounds j true) a' w' hfree' (ready_mono hr (Ne.symm hji)) (lateB_set hlate hjl) h3.1 (h3.2.1 hjz) ?_⟩) h2
   rw [Array.setIfInBounds_comm _ _ hji]
   exact h3.2.2
theorem wpAnyL_take {l:List Oper} (i:Nat) (late:List Nat) {oi:Oper} {v:Value} {fuel:Nat} {listed:Array Bool} {a:Act} {w:World} (hi:l[i]? = some oi)
  (hs:Region.noSelect l.toArray=true) (hf:Region.free md l.toArray listed i=true) (hr:(Region.ready md l.toArray listed).contains i=true) (hl:lateB md l.toArray listed i late=true) (hz:z∈late)
  (hQ:∀c a w,Q (.panic c) (a.put oi.dst v) w→Q (.panic c) a w) (hy:YieldsIf P l.toArray S oi v a) (hS:S w)
  (h:wpAnyL P md l.toArray Q S z fuel (listed.setIfInBounds i true) (a.put oi.dst v) w):wpAnyL P md l.toArray Q S z (fuel+1) listed a w:=
 wpAnyL_first (by simpa using hi) (Region.noSelect_spec hs) hQ hz fuel listed a w (Region.free_spec (by simpa using hi) hf) (by simpa using hr) hl hy hS h
theorem wpAnyL_one {l:List Oper} (i:Nat) {o:Oper} {fuel:Nat} {listed:Array Bool} {a:Act} {w:World} (ho:l[i]? = some o) (hr:Region.ready md l.toArray listed=[i])
  (h:∀K':Act→World→Prop,Shut (∀a w,(i≠z→S w)→wpAnyL P md l.toArray Q S z fuel (listed.setIfInBounds i true) a w→K' a w)→
   if Region.wanted o (yielded l.toArray a.tmps)=true then Oper.wp P o a w K' Q else K' (a.put o.dst undef) w) :
  wpAnyL P md l.toArray Q S z (fuel+1) listed a w:=by
 refine ⟨fun h0=>(by rw [hr] at h0;cases h0),fun j hj=>?_⟩
 rw [hr,List.mem_singleton] at hj
 subst hj
 exact wpOp_step (by simpa using ho) (fun K' hK=>h K' (fun a w h1 h2=>hK a w ⟨h1,h2⟩))
theorem wpAnyL_done {listed:Array Bool} {a:Act} {w:World} (hr:Region.ready md ops listed=[]) (h:Q .normal a w) :
  ∀fuel,wpAnyL P md ops Q S z fuel listed a w
 | 0=>⟨hr,h⟩
 | _+1=>⟨fun _=>h,by rw [hr];simp⟩
theorem wp_region_l {id:Nat} {l:List Oper} {a:Act} {w:World} (S:World→Prop) (z n:Nat) (hn:l.length=n) (hm:P.follows .mixedOrders=true)
  (h:wpAnyL P .any l.toArray Q S z n (List.replicate n false).toArray a w.drew):(Code.region id l.toArray true).wp P Q a w:=by
 subst hn
 refine wp_region_any hm ?_
 have:=wpAny_of_l _ _ _ _ h
 simpa using this
end
end Go.Proofs.YtgaidmohdhaonaaGreatDoor
namespace Go.Proofs.YtgaidmohdhaonaaGreatDoor
open Go Go.RowKit
theorem decode_any {w:World} {v:Value} {b:List UInt8} (hT:TabIn w) (hv:BAt w v b) (hl:b.length≤140737488351232) :
  Calls Tryz.prog 19 #[v] w fun e w'=>DecOwn w' w.heap.size e (decodeA b)∧Upd (fun _=>False) w w':=by
 have HV:=hid hv;have HT:=hid hT
 obtain ⟨ao,cap,rfl,hc1,hc2,-,-⟩:=hv
 obtain ⟨O,hO⟩:∃O,O=decodeA b:=⟨_,rfl⟩
 rw [←hO]
 unfold decodeA at hO
 have Ku:=hid hO
 clear hO hT
 have hu1:Upd (fun _=>False) w ((w.alloc (.cells #[.int .i64 0,.int .i64 0,.int .i64 0,.int .i64 0,.int .i64 0,.slice none 0 0,.slice none 0 0] 25)).alloc (.cells #[.int .u8 83,.int .u8 84,.int .u8 82,.int .u8 65,.int .u8 84,.int .u8 65,.int .u8 45,.int .u8 77] 5 (8,9))):=((Upd.refl _ w).alloc _).alloc _
 have hb2:((w.alloc (.cells #[.int .i64 0,.int .i64 0,.int .i64 0,.int .i64 0,.int .i64 0,.slice none 0 0,.slice none 0 0] 25)).alloc (.cells #[.int .u8 83,.int .u8 84,.int .u8 82,.int .u8 65,.int .u8 84,.int .u8 65,.int .u8 45,.int .u8 77] 5 (8,9))).heap[w.heap.size]? = some (.cells (verC 0 0 0 0 0 (.slice none 0 0) (.slice none 0 0)) 25 (0,0)):=by
  rw [heap_alloc_past _ _ _ (by simp)];exact heap_alloc_new w _
 have hmg:BAt ((w.alloc (.cells #[.int .i64 0,.int .i64 0,.int .i64 0,.int .i64 0,.int .i64 0,.slice none 0 0,.slice none 0 0] 25)).alloc (.cells #[.int .u8 83,.int .u8 84,.int .u8 82,.int .u8 65,.int .u8 84,.int .u8 65,.int .u8 45,.int .u8 77] 5 (8,9))) (.slice (some ⟨w.heap.size+1,0,none⟩) 8 8) magicB:=by
  have hrow:=heap_alloc_new (w.alloc (.cells #[.int .i64 0,.int .i64 0,.int .i64 0,.int .i64 0,.int .i64 0,.slice none 0 0,.slice none 0 0] 25)) (.cells #[.int .u8 83,.int .u8 84,.int .u8 82,.int .u8 65,.int .u8 84,.int .u8 65,.int .u8 45,.int .u8 77] 5 (8,9))
  have hsz:(w.alloc (.cells #[.int .i64 0,.int .i64 0,.int .i64 0,.int .i64 0,.int .i64 0,.slice none 0 0,.slice none 0 0] 25)).heap.size=w.heap.size+1:=by simp
  rw [hsz] at hrow
  refine ⟨some ⟨w.heap.size+1,0,none⟩,8,rfl,by decide,by decide,(fun h=>by cases h),fun j hj=>⟨w.heap.size+1,0,rfl,lt_of_heap hrow,?_⟩⟩
  rw [Nat.zero_add,cell_of_row _ _ j _ _ _ hrow]
  have hj8:j<8:=hj
  rcases j with _|_|_|_|_|_|_|_|j<;>first|rfl|omega
 have Kz:=hid (hasPrefix_any (HV.out.keep hu1) hmg (by decide))
 rw [show magicB.length=8 from rfl] at Kz
 have Ke:=hid hb2;have Kf:=hid hu1
 have kc:(convert 22 22 (.slice (some ⟨w.heap.size+1,0,none⟩) 8 8)).run Tryz.prog ((w.alloc (.cells #[.int .i64 0,.int .i64 0,.int .i64 0,.int .i64 0,.int .i64 0,.slice none 0 0,.slice none 0 0] 25)).alloc (.cells #[.int .u8 83,.int .u8 84,.int .u8 82,.int .u8 65,.int .u8 84,.int .u8 65,.int .u8 45,.int .u8 77] 5))=.ok (.slice (some ⟨w.heap.size+1,0,none⟩) 8 8) ((w.alloc (.cells #[.int .i64 0,.int .i64 0,.int .i64 0,.int .i64 0,.int .i64 0,.slice none 0 0,.slice none 0 0] 25)).alloc (.cells #[.int .u8 83,.int .u8 84,.int .u8 82,.int .u8 65,.int .u8 84,.int .u8 65,.int .u8 45,.int .u8 77] 5 (8,9))):=by
  have h:=Lib.run_convert_bytes_const (P:=Tryz.prog) (w.alloc (.cells #[.int .i64 0,.int .i64 0,.int .i64 0,.int .i64 0,.int .i64 0,.slice none 0 0,.slice none 0 0] 25)) 22 5 #[.int .u8 83,.int .u8 84,.int .u8 82,.int .u8 65,.int .u8 84,.int .u8 65,.int .u8 45,.int .u8 77] 8 8 Tryz.underlying22 Tryz.underlying5
  have hsz:(w.alloc (.cells #[.int .i64 0,.int .i64 0,.int .i64 0,.int .i64 0,.int .i64 0,.slice none 0 0,.slice none 0 0] 25)).heap.size=w.heap.size+1:=by simp
  rw [hsz] at h
  exact h
 clear hu1 hb2 hmg
 obtain ⟨p2,hp2⟩:∃p2,p2=w.heap.size:=⟨_,rfl⟩
 rw [←hp2] at Ke
 have Za:=hid hp2
 have Kd:=hid (show w.heap.size≤p2 from by omega)
 clear hp2
 go_enter Tryz.func19,Tryz.ntmps19
 go_wp2_with fail
 refine Kz.out.mono ?_
 rintro e W1 ⟨rfl,hww⟩
 rw [←Za.out]
 clear kc
 rw [←hww] at Ke Kf
 clear hww
 by_cases hpre:b.take 8=magicB
 ·have hpd:decide (b.take 8=magicB)=true:=by simpa using hpre
  rw [hpd]
  have hO:=Ku.out
  rw [if_neg (by simpa using hpre)] at hO
  have hb8:8≤b.length:=by have:=congrArg List.length hpre;rw [List.length_take] at this;have e:magicB.length=8:=rfl;omega
  have Kv:=hid (readFrame_any (HT.out.keep Kf.out) (HV.out.keep Kf.out) hb8 hl)
  have Kh:=hid (readFr_len (b:=b) (a:=8))
  obtain ⟨⟨B,en,er⟩,hF⟩:∃F,F=readFr b 8:=⟨_,rfl⟩
  rw [←hF] at Kv hO Kh
  simp only at Kv hO Kh
  have Km:=hid hO
  clear hO hF hpre hpd
  go_wp2_with fail
  refine Kv.out.mono ?_
  rintro e W2 ⟨vb,rfl,hn2⟩
  have Ki:=hid (Kf.out.trans hn2.upd (fun _ _ e=>e))
  have Kc:=hid (hn2.upd.get Ke.out (fun e=>e))
  by_cases her:er=0
  ·subst her
   by_cases hen:en=b.length
   ·subst hen
    have hnb:((b.length:Int) != (b.length:Int))=false:=by simp
    have hO:=Km.out
    rw [if_neg (by simp)] at hO
    have Kw:=hid hO
    have Kq:=hid hn2.data
    obtain ⟨g,c,hvb,-,-⟩:=hn2.shape
    obtain ⟨N,hN⟩:∃N,N=B.length:=⟨_,rfl⟩
    rw [←hN] at hvb
    subst hvb
    have Kj:=hid hN
    clear hO hn2 hN
    go_upto_region 7 with fail
    have hr7:=heap_alloc_new W2 (.cells #[.slice g N c,.int .i64 0,.bool false] 137)
    have hu7:Upd (fun _=>False) W2 (W2.alloc (.cells #[.slice g N c,.int .i64 0,.bool false] 137)):=(Upd.refl _ _).alloc _
    have hs7:RdS w (W2.alloc (.cells #[.slice g N c,.int .i64 0,.bool false] 137)) p2 W2.heap.size g c B ⟨0,false⟩:=
     ⟨Ki.out.trans hu7 (fun _ _ e=>e),hu7.get Kc.out (fun e=>e),by unfold RdAt;rw [←Kj.out];exact hr7,by rw [←Kj.out];exact Kq.out.upd hu7 (fun _ _ e=>e),Nat.zero_le _,Kd.out,Ki.out.size,Kh.out⟩
    have HS:=hid hs7
    obtain ⟨p7,hp7⟩:∃p7,p7=W2.heap.size:=⟨_,rfl⟩
    rw [←hp7] at HS
    rw [←hp7]
    generalize W2.alloc (.cells #[.slice g N c,.int .i64 0,.bool false] 137)=W3 at HS⊢
    clear hs7 hr7 hu7 hp7 Kc Ke Ki
    rcases hr1:rdN B ⟨0,false⟩ with ⟨n1,s1⟩
    rcases hr2:rdN B s1 with ⟨n2,s2⟩
    rcases hr3:rdN B s2 with ⟨n3,s3⟩
    rcases hr4:rdN B s3 with ⟨n4,s4⟩
    rcases hr5:rdN B s4 with ⟨n5,s5⟩
    rcases hr6:rdB B 131072 s5 with ⟨S,s6⟩
    rcases hr7:rdN B s6 with ⟨n0,s7⟩
    obtain ⟨M,hM⟩:∃M,M=rdMetaG (rdN B) (rdB B B.length):=⟨_,rfl⟩
    have Zb:=hid hM
    obtain ⟨K,hK⟩:∃K,K=min n0.toNat 65:=⟨_,rfl⟩
    have Kg:=hid hK
    have HG:=hid (show rdVerG (rdN B) (rdB B 131072) (rdB B B.length)=((⟨n1,n2,n3,n4,n5,S,(rdRunsG M K s7).1⟩:VerA),(rdRunsG M K s7).2) from by unfold rdVerG;simp only [hr1,hr2,hr3,hr4,hr5,hr6,hr7,hM,hK])
    have hn0:0≤n0∧n0≤9223372036854775807:=by have h:=rdN_nonneg B s6;rw [hr7] at h;exact h
    have hn00:=hn0.1
    clear hM hK
    go_wp2_with fail
    refine (HS.out.num hr1).mono ?_
    rintro e X1 ⟨rfl,hs,-⟩
    have HS:=hid hs
    clear hs hr1
    go_wp2_with fail
    refine (HS.out.num hr2).mono ?_
    rintro e X2 ⟨rfl,hs,-⟩
    have HS:=hid hs
    clear hs hr2
    go_wp2_with fail
    refine (HS.out.num hr3).mono ?_
    rintro e X3 ⟨rfl,hs,-⟩
    have HS:=hid hs
    clear hs hr3
    go_wp2_with fail
    refine (HS.out.num hr4).mono ?_
    rintro e X4 ⟨rfl,hs,-⟩
    have HS:=hid hs
    clear hs hr4
    go_wp2_with fail
    refine (HS.out.num hr5).mono ?_
    rintro e X5 ⟨rfl,hs,-⟩
    have HS:=hid hs
    clear hs hr5
    go_wp2_with fail
    refine (HS.out.bytes (by omega) hr6).mono ?_
    rintro e W9 ⟨vs,rfl,hs9,-,hds,hns⟩
    obtain ⟨xs,ys,hvs,-⟩:=hds.bat
    obtain ⟨ls,hls⟩:∃ls,ls=S.length:=⟨_,rfl⟩
    rw [←hls] at hvs
    subst hvs
    clear hls hr6 hn0
    have Zc:=hid hns
    clear hns
    go_upto_region 8 with fail
    have hu9:Upd (fun _=>False) W9 (W9.alloc (.cells #[.int .i64 n1,.int .i64 n2,.int .i64 n3,.int .i64 n4,.int .i64 n5,.slice xs ls ys,.slice none 0 0] 25)):=(Upd.refl _ _).alloc _
    have hd9:DecS w (W9.alloc (.cells #[.int .i64 n1,.int .i64 n2,.int .i64 n3,.int .i64 n4,.int .i64 n5,.slice xs ls ys,.slice none 0 0] 25)) p2 p7 W9.heap.size g c B n1 n2 n3 n4 n5 (.slice xs ls ys) (.slice none 0 0) S [] s6:=
     ⟨hs9.keep hu9,heap_alloc_new _ _,by have:=lt_of_heap hs9.b2;omega,hs9.upd.size,hds.upd hu9 (fun _ _ e=>e),RunsOwn.nil _ _,by simp,own_one (fun k e=>Nat.le_trans HS.out.upd.size (Zc.out k e))⟩
    have Kn:=hid hd9
    obtain ⟨p8,hp8⟩:∃p8,p8=W9.heap.size:=⟨_,rfl⟩
    rw [←hp8] at Kn
    rw [←hp8]
    generalize W9.alloc (.cells #[.int .i64 n1,.int .i64 n2,.int .i64 n3,.int .i64 n4,.int .i64 n5,.slice xs ls ys,.slice none 0 0] 25)=W10 at Kn⊢
    clear hu9 hd9 hs9 hds hp8 HS Zc
    go_wp2_with fail
    refine (Kn.out.num hr7).mono ?_
    rintro e W11 ⟨rfl,hd11,-⟩
    have Kr:=hid hd11
    clear hd11 hr7 Kn
    go_wp2
    go_loopw [10] (fun iv wr=>∃k:Nat,iv=.int .i64 k∧k≤K∧∃ra rc L s,DecS w wr p2 p7 p8 g c B n1 n2 n3 n4 n5 (.slice xs ls ys) (.slice ra (L:List MV).length rc) S L s∧L.length=k∧rdRunsG M K s7=(L.map MV.m++(rdRunsG M (K-k) s).1,(rdRunsG M (K-k) s).2)) (fun iv _=>65-(intOf iv).toNat)
    case atStart=>exact ⟨0,rfl,Nat.zero_le _,none,0,[],s7,Kr.out,rfl,by simp⟩
    case round=>
     obtain ⟨k,rfl,hk,ra,rc,L,s,hd,hLk,hrr⟩:=hrel
     have HD:=hid hd;have Zd:=hid hLk;have Ko:=hid hrr
     obtain ⟨wo,rfl⟩:∃wo,wo=wr:=⟨_,rfl⟩
     obtain ⟨⟨e0,e1,e2⟩,-,hp7l⟩:=hd.r.rd.cells
     have hk65:k≤65:=by have:=Kg.out;omega
     obtain ⟨bd,hbd⟩:∃bd,bd=s.bad:=⟨_,rfl⟩
     rw [←hbd] at e2
     have Kp:=hid hbd
     clear hd hLk hrr e0 e1 hbd
     go_upto_region 10 with fail
     go_cut [65] (fun bv wx=>bv=.bool (decide (k<K) && !bd)∧wx=wo)
     case first=>
      by_cases h1:(k:Int)<n0
      ·by_cases h2:(k:Int)≤64
       ·have hkd:decide (k<K)=true:=by have:=Kg.out;simp;omega
        cases bd
        ·skip
         go_wp2
         go_meet
         case rel=>exact ⟨by rw [hkd];rfl,rfl⟩
        ·skip
         go_wp2
         go_meet
         case rel=>exact ⟨by rw [hkd];rfl,rfl⟩
       ·have hkd:decide (k<K)=false:=by have:=Kg.out;simp;omega
        go_wp2
        go_meet
        case rel=>exact ⟨by rw [hkd];rfl,rfl⟩
      ·have hkd:decide (k<K)=false:=by have:=Kg.out;simp;omega
       go_wp2
       go_meet
       case rel=>exact ⟨by rw [hkd];rfl,rfl⟩
     case rest=>
      obtain ⟨hv65,hww⟩:=hcut
      obtain rfl:=hww.symm
      by_cases hgo:k<K∧bd=false
      ·obtain ⟨hg1,hg2⟩:=hgo
       subst hg2
       rw [decide_eq_true hg1] at hv65
       simp only [Bool.not_false,Bool.and_true] at hv65
       subst hv65
       rcases hm1:rdN B s with ⟨m1,t1⟩
       rcases hm2:rdN B t1 with ⟨m2,t2⟩
       rcases hm3:rdN B t2 with ⟨m3,t3⟩
       rcases hm4:rdN B t3 with ⟨m4,t4⟩
       rcases hm5:rdN B t4 with ⟨m5,t5⟩
       rcases hm6:rdN B t5 with ⟨m6,t6⟩
       rcases hm7:rdB B B.length t6 with ⟨l7,t7⟩
       rcases hm8:rdB B B.length t7 with ⟨l8,t8⟩
       have Zh:=hid (show rdRunsG M K s7=((L.map MV.m ++ [⟨m1,m2,m3,m4,m5,m6,l7,l8⟩])++(rdRunsG M (K-(k+1)) t8).1,(rdRunsG M (K-(k+1)) t8).2) from by
        have h:=rdRuns_step hg1 Kp.out.symm Ko.out
        have hms:M s=(⟨m1,m2,m3,m4,m5,m6,l7,l8⟩,t8):=by rw [Zb.out];unfold rdMetaG;simp only [hm1,hm2,hm3,hm4,hm5,hm6,hm7,hm8]
        rw [hms] at h
        exact h)
       have Kk:=hid (show k+1≤K from hg1)
       have Ks:=hid (show K≤65 from by have:=Kg.out;omega)
       rw [←Kj.out] at hm7 hm8
       have Ka:=hid (HD.out.keep (Upd.refl (fun _=>False) wo).drew)
       have c6:=(verCells HD.out.b8).1.2.2.2.2.2.2
       have hp8l:=lt_of_heap HD.out.b8
       obtain ⟨LL,hLL⟩:∃LL,LL=L.length:=⟨_,rfl⟩
       rw [←hLL] at Ka c6
       have Ze:=hid hLL
       have Zi:=hid (show l7.length≤1048576 from by have h:=rdB_len (m:=N) (s:=t6) (B:=B) Kh.out;rw [hm7] at h;exact h)
       have hN9:N≤140737488351232:=by have h1:=Kh.out;have h2:=Kj.out;omega
       have Zj:=hid (show L.length≤100 from by have:=Zd.out;omega)
       have Zk:=hid hm1;have Zl:=hid hm2;have Zm:=hid hm3;have Zn:=hid hm4;have Zo:=hid hm5;have Zp:=hid hm6;have Zq:=hid hm7;have Zr:=hid hm8
       clear hm1 hm2 hm3 hm4 hm5 hm6 hm7 hm8 e2 hLL Kr Ko Kw HG HV HT Kq Zb Kg Kf Za Ku Km hk hg1 hk65 hn00 hp7l hb8
       go_wp2_with fail
       have hHeld:(wo.drew).cell? ⟨p8,6,none⟩=some (.slice ra LL rc):=c6
       refine wp_region_l (fun W=>W.cell? ⟨p8,6,none⟩=some (.slice ra LL rc)) 26 27 rfl (by kernel_rfl) ?_
       refine' wpAnyL_take 0 [26] (v:=_) rfl (by kernel_rfl) (by kernel_rfl) (by kernel_rfl) (by kernel_rfl) (by simp) (fun _ _ _ h=>h) (Or.inl ⟨by rfl,?hy0⟩) (by assumption) ?rest0
       case hy0=>(intro wS hSw;(try dsimp only at hSw);go_simp;(try with_reducible rfl))
       (try simp only [Act.put,List.setIfInBounds_toArray,List.set_cons_zero,List.set_cons_succ])
       refine' wpAnyL_take 1 [26] (v:=_) rfl (by kernel_rfl) (by kernel_rfl) (by kernel_rfl) (by kernel_rfl) (by simp) (fun _ _ _ h=>h) (Or.inl ⟨by rfl,?hy1⟩) (by assumption) ?rest1
       case hy1=>(intro wS hSw;(try dsimp only at hSw);go_simp;(try with_reducible rfl))
       (try simp only [Act.put,List.setIfInBounds_toArray,List.set_cons_zero,List.set_cons_succ])
       refine' wpAnyL_take 2 [26] (v:=_) rfl (by kernel_rfl) (by kernel_rfl) (by kernel_rfl) (by kernel_rfl) (by simp) (fun _ _ _ h=>h) (Or.inl ⟨by rfl,?hy2⟩) (by assumption) ?rest2
       case hy2=>(intro wS hSw;(try dsimp only at hSw);go_simp;(try with_reducible rfl))
       (try simp only [Act.put,List.setIfInBounds_toArray,List.set_cons_zero,List.set_cons_succ])
       refine' wpAnyL_take 4 [26] (v:=_) rfl (by kernel_rfl) (by kernel_rfl) (by kernel_rfl) (by kernel_rfl) (by simp) (fun _ _ _ h=>h) (Or.inl ⟨by rfl,?hy4⟩) (by assumption) ?rest4
       case hy4=>(intro wS hSw;(try dsimp only at hSw);go_simp;(try with_reducible rfl))
       (try simp only [Act.put,List.setIfInBounds_toArray,List.set_cons_zero,List.set_cons_succ])
       refine' wpAnyL_take 6 [26] (v:=_) rfl (by kernel_rfl) (by kernel_rfl) (by kernel_rfl) (by kernel_rfl) (by simp) (fun _ _ _ h=>h) (Or.inl ⟨by rfl,?hy6⟩) (by assumption) ?rest6
       case hy6=>(intro wS hSw;(try dsimp only at hSw);go_simp;(try with_reducible rfl))
       (try simp only [Act.put,List.setIfInBounds_toArray,List.set_cons_zero,List.set_cons_succ])
       refine' wpAnyL_take 8 [26] (v:=_) rfl (by kernel_rfl) (by kernel_rfl) (by kernel_rfl) (by kernel_rfl) (by simp) (fun _ _ _ h=>h) (Or.inl ⟨by rfl,?hy8⟩) (by assumption) ?rest8
       case hy8=>(intro wS hSw;(try dsimp only at hSw);go_simp;(try with_reducible rfl))
       (try simp only [Act.put,List.setIfInBounds_toArray,List.set_cons_zero,List.set_cons_succ])
       refine' wpAnyL_take 10 [26] (v:=_) rfl (by kernel_rfl) (by kernel_rfl) (by kernel_rfl) (by kernel_rfl) (by simp) (fun _ _ _ h=>h) (Or.inl ⟨by rfl,?hy10⟩) (by assumption) ?rest10
       case hy10=>(intro wS hSw;(try dsimp only at hSw);go_simp;(try with_reducible rfl))
       (try simp only [Act.put,List.setIfInBounds_toArray,List.set_cons_zero,List.set_cons_succ])
       refine' wpAnyL_take 12 [26] (v:=_) rfl (by kernel_rfl) (by kernel_rfl) (by kernel_rfl) (by kernel_rfl) (by simp) (fun _ _ _ h=>h) (Or.inl ⟨by rfl,?hy12⟩) (by assumption) ?rest12
       case hy12=>(intro wS hSw;(try dsimp only at hSw);go_simp;(try with_reducible rfl))
       (try simp only [Act.put,List.setIfInBounds_toArray,List.set_cons_zero,List.set_cons_succ])
       refine' wpAnyL_take 14 [26] (v:=_) rfl (by kernel_rfl) (by kernel_rfl) (by kernel_rfl) (by kernel_rfl) (by simp) (fun _ _ _ h=>h) (Or.inl ⟨by rfl,?hy14⟩) (by assumption) ?rest14
       case hy14=>(intro wS hSw;(try dsimp only at hSw);go_simp;(try with_reducible rfl))
       (try simp only [Act.put,List.setIfInBounds_toArray,List.set_cons_zero,List.set_cons_succ])
       refine' wpAnyL_take 15 [26] (v:=_) rfl (by kernel_rfl) (by kernel_rfl) (by kernel_rfl) (by kernel_rfl) (by simp) (fun _ _ _ h=>h) (Or.inl ⟨by rfl,?hy15⟩) (by assumption) ?rest15
       case hy15=>(intro wS hSw;(try dsimp only at hSw);go_simp;(try with_reducible rfl))
       (try simp only [Act.put,List.setIfInBounds_toArray,List.set_cons_zero,List.set_cons_succ])
       refine' wpAnyL_take 16 [26] (v:=_) rfl (by kernel_rfl) (by kernel_rfl) (by kernel_rfl) (by kernel_rfl) (by simp) (fun _ _ _ h=>h) (Or.inl ⟨by rfl,?hy16⟩) (by assumption) ?rest16
       case hy16=>(intro wS hSw;(try dsimp only at hSw);go_simp;(try with_reducible rfl))
       (try simp only [Act.put,List.setIfInBounds_toArray,List.set_cons_zero,List.set_cons_succ])
       refine' wpAnyL_take 18 [26] (v:=_) rfl (by kernel_rfl) (by kernel_rfl) (by kernel_rfl) (by kernel_rfl) (by simp) (fun _ _ _ h=>h) (Or.inl ⟨by rfl,?hy18⟩) (by assumption) ?rest18
       case hy18=>(intro wS hSw;(try dsimp only at hSw);go_simp;(try with_reducible rfl))
       (try simp only [Act.put,List.setIfInBounds_toArray,List.set_cons_zero,List.set_cons_succ])
       refine' wpAnyL_take 19 [26] (v:=_) rfl (by kernel_rfl) (by kernel_rfl) (by kernel_rfl) (by kernel_rfl) (by simp) (fun _ _ _ h=>h) (Or.inl ⟨by rfl,?hy19⟩) (by assumption) ?rest19
       case hy19=>(intro wS hSw;(try dsimp only at hSw);go_simp;(try with_reducible rfl))
       (try simp only [Act.put,List.setIfInBounds_toArray,List.set_cons_zero,List.set_cons_succ])
       refine' wpAnyL_take 20 [26] (v:=_) rfl (by kernel_rfl) (by kernel_rfl) (by kernel_rfl) (by kernel_rfl) (by simp) (fun _ _ _ h=>h) (Or.inl ⟨by rfl,?hy20⟩) (by assumption) ?rest20
       case hy20=>(intro wS hSw;(try dsimp only at hSw);go_simp;(try with_reducible rfl))
       (try simp only [Act.put,List.setIfInBounds_toArray,List.set_cons_zero,List.set_cons_succ])
       clear c6
       refine wpAnyL_one 3 rfl (by kernel_rfl) (fun K hK=>?_)
       go_simp
       go_at_call 74
       refine (Ka.out.num Zk.out).mono ?_
       rintro e V1 ⟨rfl,hd7,-⟩
       have hHeld:=(verCells hd7.b8).1.2.2.2.2.2.2
       have Ka:=hid hd7
       clear hd7
       refine hK.out _ _ (fun _=>hHeld) ?_
       clear hK K
       (try simp only [Act.put,List.setIfInBounds_toArray,List.set_cons_zero,List.set_cons_succ])
       refine wpAnyL_one 5 rfl (by kernel_rfl) (fun K hK=>?_)
       go_simp
       go_at_call 74
       refine (Ka.out.num Zl.out).mono ?_
       rintro e V2 ⟨rfl,hd7,-⟩
       have hHeld:=(verCells hd7.b8).1.2.2.2.2.2.2
       have Ka:=hid hd7
       clear hd7
       refine hK.out _ _ (fun _=>hHeld) ?_
       clear hK K
       (try simp only [Act.put,List.setIfInBounds_toArray,List.set_cons_zero,List.set_cons_succ])
       refine wpAnyL_one 7 rfl (by kernel_rfl) (fun K hK=>?_)
       go_simp
       go_at_call 74
       refine (Ka.out.num Zm.out).mono ?_
       rintro e V3 ⟨rfl,hd7,-⟩
       have hHeld:=(verCells hd7.b8).1.2.2.2.2.2.2
       have Ka:=hid hd7
       clear hd7
       refine hK.out _ _ (fun _=>hHeld) ?_
       clear hK K
       (try simp only [Act.put,List.setIfInBounds_toArray,List.set_cons_zero,List.set_cons_succ])
       refine wpAnyL_one 9 rfl (by kernel_rfl) (fun K hK=>?_)
       go_simp
       go_at_call 74
       refine (Ka.out.num Zn.out).mono ?_
       rintro e V4 ⟨rfl,hd7,-⟩
       have hHeld:=(verCells hd7.b8).1.2.2.2.2.2.2
       have Ka:=hid hd7
       clear hd7
       refine hK.out _ _ (fun _=>hHeld) ?_
       clear hK K
       (try simp only [Act.put,List.setIfInBounds_toArray,List.set_cons_zero,List.set_cons_succ])
       refine wpAnyL_one 11 rfl (by kernel_rfl) (fun K hK=>?_)
       go_simp
       go_at_call 74
       refine (Ka.out.num Zo.out).mono ?_
       rintro e V5 ⟨rfl,hd7,-⟩
       have hHeld:=(verCells hd7.b8).1.2.2.2.2.2.2
       have Ka:=hid hd7
       clear hd7
       refine hK.out _ _ (fun _=>hHeld) ?_
       clear hK K
       (try simp only [Act.put,List.setIfInBounds_toArray,List.set_cons_zero,List.set_cons_succ])
       refine wpAnyL_one 13 rfl (by kernel_rfl) (fun K hK=>?_)
       go_simp
       go_at_call 74
       refine (Ka.out.num Zp.out).mono ?_
       rintro e V6 ⟨rfl,hd7,-⟩
       have hHeld:=(verCells hd7.b8).1.2.2.2.2.2.2
       have Ka:=hid hd7
       clear hd7
       refine hK.out _ _ (fun _=>hHeld) ?_
       clear hK K
       (try simp only [Act.put,List.setIfInBounds_toArray,List.set_cons_zero,List.set_cons_succ])
       refine wpAnyL_one 17 rfl (by kernel_rfl) (fun K hK=>?_)
       go_simp
       go_at_call 75
       refine (Ka.out.bytes hN9 Zq.out).mono ?_
       rintro e V7 ⟨v7,rfl,hd7,-,hdat,hn7⟩
       obtain ⟨x7,y7,e7,-⟩:=hdat.bat
       obtain ⟨u7,hu7⟩:∃u,u=l7.length:=⟨_,rfl⟩
       rw [←hu7] at e7
       subst e7
       have hHeld:=(verCells hd7.b8).1.2.2.2.2.2.2
       have Zs:=hid (fun k e=>Ka.out.fresh (hn7 k e))
       clear hn7
       have Ka:=hid hd7;have Zt:=hid hdat
       clear hd7 hdat hu7
       refine hK.out _ _ (fun _=>hHeld) ?_
       clear hK K
       (try simp only [Act.put,List.setIfInBounds_toArray,List.set_cons_zero,List.set_cons_succ])
       refine wpAnyL_one 21 rfl (by kernel_rfl) (fun K hK=>?_)
       go_simp
       go_at_call 75
       refine (meta_last (n1:=m1) (n2:=m2) (n3:=m3) (n4:=m4) (n5:=m5) (n6:=m6) Ka.out Ze.out Zj.out Kj.out Zt.out Zi.out Zs.out Zr.out).mono ?_
       rintro e V8 ⟨x8,l8',y8,rfl,hHeld,hl8,ao,L2,cp,w9,hr,z1,z2,z3,hF⟩
       refine hK.out _ _ (fun _=>hHeld) ?_
       clear hK K
       (try simp only [Act.put,List.setIfInBounds_toArray,List.set_cons_zero,List.set_cons_succ])
       refine' wpAnyL_take 22 [26] (v:=_) rfl (by kernel_rfl) (by kernel_rfl) (by kernel_rfl) (by kernel_rfl) (by simp) (fun _ _ _ h=>h) (Or.inl ⟨by rfl,?hy22⟩) (by assumption) ?rest22
       case hy22=>(intro wS hSw;(try dsimp only at hSw);go_simp;(try with_reducible rfl))
       (try simp only [Act.put,List.setIfInBounds_toArray,List.set_cons_zero,List.set_cons_succ])
       have hHeld':(V8.alloc (.cells #[.int .i64 m1,.int .i64 m2,.int .i64 m3,.int .i64 m4,.int .i64 m5,.int .i64 m6,.slice x7 u7 y7,.slice x8 l8' y8] 48)).cell? ⟨p8,6,none⟩=some (.slice ra LL rc):=by
        rw [World.cell?_alloc_some _ _ _ (by rw [hHeld];rfl)];exact hHeld
       refine wpAnyL_one 23 rfl (by kernel_rfl) (fun K hK=>?_)
       go_simp
       refine hK.out _ _ (fun _=>hHeld') ?_
       clear hK K
       (try simp only [Act.put,List.setIfInBounds_toArray,List.set_cons_zero,List.set_cons_succ])
       refine wpAnyL_one 24 rfl (by kernel_rfl) (fun K hK=>?_)
       refine step_append_eq rfl (.tmp 69) (.tmp 91) 23 rfl rfl rfl hr ?_
       refine hK.out _ _ (fun _=>z1) ?_
       clear hK K hHeld hHeld'
       (try simp only [Act.put,List.setIfInBounds_toArray,List.set_cons_zero,List.set_cons_succ])
       refine' wpAnyL_take 25 [26] (v:=_) rfl (by kernel_rfl) (by kernel_rfl) (by kernel_rfl) (by kernel_rfl) (by simp) (fun _ _ _ h=>h) (Or.inl ⟨by rfl,?hy25⟩) (by assumption) ?rest25
       case hy25=>(intro wS hSw;(try dsimp only at hSw);go_simp;(try with_reducible rfl))
       (try simp only [Act.put,List.setIfInBounds_toArray,List.set_cons_zero,List.set_cons_succ])
       refine wpAnyL_one 26 rfl (by kernel_rfl) (fun K hK=>?_)
       go_simp
       refine hK.out _ _ (fun h=>absurd rfl h) ?_
       clear hK K
       refine wpAnyL_done (by kernel_rfl) ?_ _
       obtain ⟨hL2,f',l',hfin⟩:=hF.out
       have Zf:=hid hfin
       have Zu:=hid hL2
       clear hr hfin hL2 hF
       have hk65:k≤65:=by have:=Kk.out;have:=Ks.out;omega
       go_wp2
       go_roundw
       case rel=>exact ⟨k+1,by simp,Kk.out,ao,cp,L ++ [⟨⟨m1,m2,m3,m4,m5,m6,l7,l8⟩,f',l'⟩],t8,by rw [List.length_append,List.length_singleton,←Ze.out,←Zu.out];exact Zf.out,by rw [List.length_append,List.length_singleton,Zd.out],by rw [List.map_append];exact Zh.out⟩
       case measure=>simp [intOf];have:=Kk.out;have:=Ks.out;omega
      ·have hbb:(decide (k<K) && !bd)=false:=by
        cases bd
        ·have:¬k<K:=fun e=>hgo ⟨e,rfl⟩
         simp [this]
        ·simp
       rw [hbb] at hv65
       subst hv65
       have Kl:=hid (rdRuns_end (M:=M) (K:=K) (k:=k) (s0:=s7) (s:=s) (pre:=L.map MV.m) (by rw [←Kp.out];exact hgo) Ko.out)
       clear hgo hbb Ko
       have hr2:=HD.out.r.b2
       have hup:=HD.out.r.upd
       cases bd
       ·skip
        have HX:=hid (show O=if okA ⟨n1,n2,n3,n4,n5,S,L.map MV.m⟩∧encodeB ⟨n1,n2,n3,n4,n5,S,L.map MV.m⟩=b then some ⟨n1,n2,n3,n4,n5,S,L.map MV.m⟩ else none from by rw [Kw.out,HG.out,Kl.out,if_neg (by rw [←Kp.out];decide)])
        have hver:=verOf (a1:=n1) (a2:=n2) (a3:=n3) (a4:=n4) (a5:=n5) HD.out.st HD.out.runs
        obtain ⟨⟨v0,v1,v2,v3,v4,v5,v6⟩,-,hp8l⟩:=verCells HD.out.b8
        obtain ⟨LL,hLL⟩:∃LL,LL=L.length:=⟨_,rfl⟩
        have Kx:=hid (show DecS w wo p2 p7 p8 g c B n1 n2 n3 n4 n5 (.slice xs ls ys) (.slice ra LL rc) S L s from by rw [hLL];exact HD.out)
        rw [←hLL] at hver v6
        have Kt:=hid hver
        clear hver hLL HD HG Kl
        by_cases hok:okA ⟨n1,n2,n3,n4,n5,S,L.map MV.m⟩=true
        ·have Ky:=hid (encode_any (HT.out.keep hup) Kt.out hok)
         go_wp2_with fail
         refine Ky.out.mono ?_
         rintro e Wa ⟨ve,rfl,hne⟩
         have Kb:=hid (Kx.out.keep hne.upd)
         have Zv:=hid (equal_any hne.data.bat.bytes (HV.out.keep Kb.out.r.upd).bytes)
         have Zw:=hid hne.upd
         clear v0 v1 v2 v3 v4 v5 v6 hp8l e2 hp7l hr2 hup hne
         go_wp2_with fail
         refine Zv.out.mono ?_
         rintro e Wb ⟨rfl,hwb⟩
         obtain rfl:=hwb.symm
         have hr2:=Kb.out.r.b2
         have hup:=Kb.out.r.upd
         by_cases heq:encodeB ⟨n1,n2,n3,n4,n5,S,L.map MV.m⟩=b
         ·have hed:decide (encodeB ⟨n1,n2,n3,n4,n5,S,L.map MV.m⟩=b)=true:=by simpa using heq
          rw [hed]
          have HF:=hid (show O=some ⟨n1,n2,n3,n4,n5,S,L.map MV.m⟩ from by rw [HX.out,if_pos ⟨hok,heq⟩])
          obtain ⟨⟨v0,v1,v2,v3,v4,v5,v6⟩,-,hp8l⟩:=verCells Kb.out.b8
          obtain ⟨⟨q0,q1,q2,q3,q4,q5,q6⟩,⟨z0,z1,z2,z3,z4,z5,z6⟩,hql⟩:=verCells hr2
          have hne8:p8≠p2:=Kb.out.ne
          have hne8':p2≠p8:=hne8.symm
          have HO:=hid (And.intro (verOut_at hr2 n1 n2 n3 n4 n5 (.slice xs ls ys) (.slice ra LL rc)) (And.intro (verOut_upd hup (p:=p2) (fun e=>by have:=Kd.out;omega) n1 n2 n3 n4 n5 (.slice xs ls ys) (.slice ra LL rc)) (verOut_upd (S:=fun k=>k=p2) (Upd.refl _ Wa) (p:=p2) (fun _=>rfl) n1 n2 n3 n4 n5 (.slice xs ls ys) (.slice ra LL rc))))
          have Zg:=hid (show ∀k,k=p2→∀cur fr,Wa.heap[k]?≠some (.cells cur 5 fr)∧Wa.heap[k]?≠some (.cells cur 48 fr) from by
           intro k hk cur fr
           rw [hk]
           exact ⟨not_ty Kb.out.r.b2 (by decide) cur fr,not_ty Kb.out.r.b2 (by decide) cur fr⟩)
          clear hok heq hed hr2 hup
          go_wp2
          (try simp only [Exit.inBlock,Exit.then])
          refine bodyPost_ret (results_ver rfl _ _ p2 _ rfl rfl HO.out.1) rfl ?_
          rw [HF.out]
          exact ⟨⟨_,rfl,⟨_,_,L,rfl,Kb.out.st.keepT HO.out.2.2 (fun k e cur fr=>(Zg.out k e cur fr).1),Kb.out.runs.keepT HO.out.2.2 Zg.out,rfl,Kb.out.own.1,Kb.out.own.2⟩⟩,HO.out.2.1⟩
         ·have hed:decide (encodeB ⟨n1,n2,n3,n4,n5,S,L.map MV.m⟩=b)=false:=by simpa using heq
          rw [hed]
          have HD:=hid (show O=none from by rw [HX.out,if_neg (fun e=>heq e.2)])
          clear hok heq hed
          obtain ⟨⟨q0,q1,q2,q3,q4,q5,q6⟩,⟨z0,z1,z2,z3,z4,z5,z6⟩,hql⟩:=verCells hr2
          have HO:=hid (And.intro (verOut_at hr2 0 0 0 0 0 (.slice none 0 0) (.slice none 0 0)) (verOut_upd hup (p:=p2) (fun e=>by have:=Kd.out;omega) 0 0 0 0 0 (.slice none 0 0) (.slice none 0 0)))
          go_wp2
          (try simp only [Exit.inBlock,Exit.then])
          refine bodyPost_ret (results_ver rfl _ _ p2 _ rfl rfl HO.out.1) rfl ?_
          rw [HD.out]
          exact ⟨rfl,HO.out.2⟩
        ·have hokf:okA ⟨n1,n2,n3,n4,n5,S,L.map MV.m⟩=false:=by simpa using hok
         have Ky:=hid (encode_bad Kt.out (fun r hr=>by obtain ⟨y,hy,rfl⟩:=List.mem_map.1 hr;have:=Kx.out.ks y hy;omega) hokf)
         have HD:=hid (show O=none from by rw [HX.out,if_neg (fun e=>hok e.1)])
         clear hok hokf
         go_wp2_with fail
         refine Ky.out.mono ?_
         rintro e Wa ⟨rfl,hua⟩
         have Kb:=hid (Kx.out.keep hua)
         clear v0 v1 v2 v3 v4 v5 v6 hp8l e2 hp7l hr2 hup hua
         have hr2:=Kb.out.r.b2
         have hup:=Kb.out.r.upd
         obtain ⟨⟨q0,q1,q2,q3,q4,q5,q6⟩,⟨z0,z1,z2,z3,z4,z5,z6⟩,hql⟩:=verCells hr2
         have HO:=hid (And.intro (verOut_at hr2 0 0 0 0 0 (.slice none 0 0) (.slice none 0 0)) (verOut_upd hup (p:=p2) (fun e=>by have:=Kd.out;omega) 0 0 0 0 0 (.slice none 0 0) (.slice none 0 0)))
         go_wp2
         (try simp only [Exit.inBlock,Exit.then])
         refine bodyPost_ret (results_ver rfl _ _ p2 _ rfl rfl HO.out.1) rfl ?_
         rw [HD.out]
         exact ⟨rfl,HO.out.2⟩
       ·have HD:=hid (show O=none from by rw [Kw.out,HG.out,Kl.out,if_pos Kp.out.symm])
        obtain ⟨⟨q0,q1,q2,q3,q4,q5,q6⟩,⟨z0,z1,z2,z3,z4,z5,z6⟩,hql⟩:=verCells hr2
        have HO:=hid (And.intro (verOut_at hr2 0 0 0 0 0 (.slice none 0 0) (.slice none 0 0)) (verOut_upd hup (p:=p2) (fun e=>by have:=Kd.out;omega) 0 0 0 0 0 (.slice none 0 0) (.slice none 0 0)))
        go_wp2
        (try simp only [Exit.inBlock,Exit.then])
        refine bodyPost_ret (results_ver rfl _ _ p2 _ rfl rfl HO.out.1) rfl ?_
        rw [HD.out]
        exact ⟨rfl,HO.out.2⟩
   ·have HD:=hid (show O=none from by rw [Km.out,if_pos (.inr hen)])
    have hnb:(((en:Nat):Int) != (b.length:Int))=true:=by simp;omega
    clear hn2 hen
    obtain ⟨⟨q0,q1,q2,q3,q4,q5,q6⟩,⟨z0,z1,z2,z3,z4,z5,z6⟩,hql⟩:=verCells Kc.out
    have HO:=hid (And.intro (verOut_at Kc.out 0 0 0 0 0 (.slice none 0 0) (.slice none 0 0)) (verOut_upd Ki.out (p:=p2) (fun e=>by have:=Kd.out;omega) 0 0 0 0 0 (.slice none 0 0) (.slice none 0 0)))
    go_wp2
    (try simp only [Exit.inBlock,Exit.then])
    refine bodyPost_ret (results_ver rfl _ _ p2 _ rfl rfl HO.out.1) rfl ?_
    rw [HD.out]
    exact ⟨rfl,HO.out.2⟩
  ·have HD:=hid (show O=none from by rw [Km.out,if_pos (.inl her)])
   have hnb:(er != 0)=true:=by simp;exact her
   clear hn2 her
   obtain ⟨⟨q0,q1,q2,q3,q4,q5,q6⟩,⟨z0,z1,z2,z3,z4,z5,z6⟩,hql⟩:=verCells Kc.out
   have HO:=hid (And.intro (verOut_at Kc.out 0 0 0 0 0 (.slice none 0 0) (.slice none 0 0)) (verOut_upd Ki.out (p:=p2) (fun e=>by have:=Kd.out;omega) 0 0 0 0 0 (.slice none 0 0) (.slice none 0 0)))
   go_wp2
   (try simp only [Exit.inBlock,Exit.then])
   refine bodyPost_ret (results_ver rfl _ _ p2 _ rfl rfl HO.out.1) rfl ?_
   rw [HD.out]
   exact ⟨rfl,HO.out.2⟩
 ·have HD:=hid (show O=none from by rw [Ku.out,if_pos hpre])
  have hpd:decide (b.take 8=magicB)=false:=by simpa using hpre
  rw [hpd]
  clear hpre hpd
  obtain ⟨⟨q0,q1,q2,q3,q4,q5,q6⟩,⟨z0,z1,z2,z3,z4,z5,z6⟩,hql⟩:=verCells Ke.out
  have HO:=hid (And.intro (verOut_at Ke.out 0 0 0 0 0 (.slice none 0 0) (.slice none 0 0)) (verOut_upd Kf.out (p:=p2) (fun e=>by have:=Kd.out;omega) 0 0 0 0 0 (.slice none 0 0) (.slice none 0 0)))
  go_wp2
  (try simp only [Exit.inBlock,Exit.then])
  refine bodyPost_ret (results_ver rfl _ _ p2 _ rfl rfl HO.out.1) rfl ?_
  rw [HD.out]
  exact ⟨rfl,HO.out.2⟩
end Go.Proofs.YtgaidmohdhaonaaGreatDoor
