/-
  Parts that VersionLent needs beside those of the other texts.
-/
import Derived.Test.YtgaidmohdhaonaaGreatDoorGA
import Derived.Handy
import Derived.Outline
import Derived.Deep.LoopGhost
import Derived.Defers
import Derived.RegionTactic
import Derived.ChangeAlike
import Derived.Laws.Cover1
import Derived.Test.YtgaidmohdhaonaaGreatDoorWP
import Derived.Test.YtgaidmohdhaonaaGreatDoorYK
import Derived.Test.YtgaidmohdhaonaaGreatDoorZA
import Derived.Test.YtgaidmohdhaonaaGreatDoorYJ
import Derived.Test.YtgaidmohdhaonaaGreatDoorGE
import Derived.Test.YtgaidmohdhaonaaGreatDoorYT
import Derived.Test.YtgaidmohdhaonaaGreatDoorYP
import Derived.Test.YtgaidmohdhaonaaGreatDoorYI
import Derived.Test.YtgaidmohdhaonaaGreatDoorSB
import Derived.Deep.OwnRows
import Derived.Laws.CopyRow
import Derived.Laws.IdiomCopy
import Derived.Lib.SlBuf
import Derived.Test.YtgaidmohdhaonaaGreatDoorSG
import Derived.Deep.RegionHeld3
import Derived.Laws.ResultCell
import Derived.Test.YtgaidmohdhaonaaGreatDoorRA
import Derived.Deep.AppendLies
import Derived.Deep.DeepCutAuto
import Derived.Laws.AppendOwnNone
import Derived.Test.YtgaidmohdhaonaaGreatDoorRD
import Derived.Test.YtgaidmohdhaonaaGreatDoorRF
import Derived.Test.YtgaidmohdhaonaaGreatDoorRI
set_option linter.unusedVariables false
set_option linter.unusedSimpArgs false
set_option linter.unnecessarySimpa false
set_option linter.unusedSectionVars false
set_option maxRecDepth 100000
set_option maxHeartbeats 6400000
namespace Go.Proofs.YtgaidmohdhaonaaGreatDoor
open Go Go.RowKit
section
variable {w:World} {s:DS}
end
theorem capacity_any {w:World} {s:DS} (hs:s.In w) :
  Calls Tryz.prog 101 #[.pointer (some ⟨s.p,0,none⟩)] w fun e w'=>e=.returned (.int .i64 s.cap)∧w'=w:=by
 have c0:=hs.c_cap
 clear hs
 go_enter Tryz.func101,Tryz.ntmps101
 go_wp2
 go_ret
 exact ⟨rfl,rfl⟩
end Go.Proofs.YtgaidmohdhaonaaGreatDoor
namespace Go.Proofs.YtgaidmohdhaonaaGreatDoor
open Go
theorem ru_write (q:List UInt8):∀n p i v,i≤9→128^i*n<18446744073709551616→(0<n∨i=0)→ru (uintB n++q) p i v=(v+128^i*n,p+(uintB n).length,0):=by
 intro n
 induction n using Nat.strongRecOn with
 | ind n ih=>
  intro p i v hi hn h0
  have h9:(128:Nat)^9=9223372036854775808:=by decide
  by_cases hs:n<128
  ·rw [uintB_small hs]
   have hc:(UInt8.ofNat n).toNat=n:=by rw [UInt8.toNat_ofNat'];omega
   simp only [List.cons_append,List.nil_append,ru,hc,List.length_cons,List.length_nil]
   rw [if_neg,if_pos hs,if_neg]
   ·omega
   ·rintro ⟨rfl,h1⟩
    rw [h9] at hn
    omega
  ·rw [uintB_big hs]
   have hc:(UInt8.ofNat (128+n%128)).toNat=128+n%128:=by rw [UInt8.toNat_ofNat'];omega
   have hi9:i≠9:=by
    intro e
    subst e
    rw [h9] at hn
    omega
   simp only [List.cons_append,ru,hc,List.length_cons]
   rw [if_neg (by omega),if_neg (by omega)]
   have hp:(128:Nat)^(i+1)=128^i*128:=Nat.pow_succ ..
   have hd:128*(n / 128)≤n:=Nat.mul_div_le n 128
   have hm:128^(i+1)*(n / 128)≤128^i*n:=by
    rw [hp,Nat.mul_assoc]
    exact Nat.mul_le_mul_left _ hd
   rw [ih (n / 128) (by omega) _ _ _ (by omega) (by omega) (by omega)]
   have he:128^i*n=128^i*(n%128)+128^(i+1)*(n / 128):=by
    rw [hp,Nat.mul_assoc,←Nat.mul_add]
    congr 1
    omega
   refine Prod.ext ?_ (Prod.ext ?_ rfl)
   ·show v+128^i*(128+n%128-128)+128^(i+1)*(n / 128)=_
    rw [show 128+n%128-128=n%128 by omega]
    omega
   ·show p+1+_=p+(_+1)
    omega
theorem readU_write (a q:List UInt8) {n:Nat} (h:n<18446744073709551616):readU (a++(uintB n++q)) a.length=(n,a.length+(uintB n).length,0):=by
 unfold readU
 rw [List.drop_left]
 rw [ru_write q n a.length 0 0 (by omega) (by simpa using h) (.inr rfl)]
 simp
theorem readB_write (a x q:List UInt8) {most:Nat} (h:x.length<18446744073709551616) (hm:x.length≤most):readB (a++(bytesB x++q)) a.length most=(x,a.length+(bytesB x).length,0):=by
 unfold readB bytesB
 rw [List.append_assoc,readU_write a (x++q) h]
 dsimp only
 rw [if_neg (by simp),if_neg (by omega),if_neg (by simp;omega)]
 refine Prod.ext ?_ (Prod.ext ?_ rfl)
 ·show List.take _ (List.drop _ _)=x
  rw [←List.append_assoc,←List.length_append,List.drop_left,List.take_left]
 ·show _=_
  simp;omega
theorem num4_high {v:Nat} (h:v<4294967296):num4 (highB v)=v:=by
 simp [num4,highB,UInt8.toNat_ofNat']
 omega
theorem readFr_write (a q:List UInt8) {b:List UInt8} (h:b.length≤1048576):readFr (a++(frameB b++q)) a.length=(b,a.length+(frameB b).length,0):=by
 have hl:(lowB (crc (highB b.length))).length=4:=rfl
 have hl2:(lowB (crc b)).length=4:=rfl
 have hh:(highB b.length).length=4:=rfl
 have e1:((a++(frameB b++q)).drop a.length).take 4=highB b.length:=by
  rw [List.drop_left];unfold frameB;simp only [List.append_assoc];rw [List.take_append_of_le_length (by omega),List.take_of_length_le (by omega)]
 have e2:((a++(frameB b++q)).drop (a.length+4)).take 4=lowB (crc (highB b.length)):=by
  rw [←List.drop_drop,List.drop_left];unfold frameB;simp only [List.append_assoc];rw [←hh,List.drop_left,List.take_append_of_le_length (by omega),List.take_of_length_le (by omega)]
 have e3:(a++(frameB b++q)).drop (a.length+8)=b++(lowB (crc b)++q):=by
  rw [←List.drop_drop,List.drop_left];unfold frameB;rw [show 8=(highB b.length++lowB (crc (highB b.length))).length from rfl,List.append_assoc,List.append_assoc (_++_),List.drop_left]
 have e4:((a++(frameB b++q)).drop (a.length+8+b.length)).take 4=lowB (crc b):=by
  rw [←List.drop_drop,e3,List.drop_left,List.take_append_of_le_length (by omega),List.take_of_length_le (by omega)]
 have hfl:=frameB_length b
 unfold readFr
 rw [e1,e2,num4_high (by omega),e3,e4,List.take_left]
 rw [if_neg (by simp;omega),if_neg (by simp),if_neg (by omega),if_neg (by simp;omega),if_neg (by simp)]
 refine Prod.ext rfl (Prod.ext ?_ rfl)
 show a.length+8+b.length+4=a.length+(frameB b).length
 omega
end Go.Proofs.YtgaidmohdhaonaaGreatDoor
namespace Go.Proofs.YtgaidmohdhaonaaGreatDoor
open Go Go.RowKit
structure Sfx (b:List UInt8) (s:RdA) (q:List UInt8):Prop where
 rest:b.drop s.at'=q
 lt:s.at'≤b.length
 ok:s.bad=false
theorem Sfx.split {b q:List UInt8} {s:RdA} (h:Sfx b s q):b=b.take s.at'++q∧(b.take s.at').length=s.at':=by
 refine ⟨by rw [←h.rest,List.take_append_drop],by rw [List.length_take];have:=h.lt;omega⟩
theorem Sfx.len {b q:List UInt8} {s:RdA} (h:Sfx b s q):s.at'+q.length=b.length:=by
 have:=congrArg List.length h.rest
 rw [List.length_drop] at this
 have:=h.lt
 omega
theorem Sfx.past {b p q:List UInt8} {s:RdA} (h:Sfx b s (p++q)) {n:Nat} (hn:n=s.at'+p.length):Sfx b ⟨n,s.bad⟩ q:=by
 have hl:=h.len
 rw [List.length_append] at hl
 refine ⟨?_,by simp only;omega,h.ok⟩
 simp only
 rw [hn,←List.drop_drop,h.rest,List.drop_left' rfl]
theorem Sfx.num {b q:List UInt8} {s:RdA} {n:Int} (h:Sfx b s (uintB (n%18446744073709551616).toNat++q)) (h0:0≤n) (h1:n≤9223372036854775807):∃s',rdN b s=(n,s')∧Sfx b s' q:=by
 obtain ⟨e1,e2⟩:=h.split
 have hr:=readU_write (b.take s.at') q (n:=(n%18446744073709551616).toNat) (by omega)
 rw [←e1,e2] at hr
 have hv:(((n%18446744073709551616).toNat:Nat):Int)=n:=by omega
 refine ⟨⟨s.at'+(uintB (n%18446744073709551616).toNat).length,s.bad⟩,?_,h.past rfl⟩
 unfold rdN
 rw [hr]
 simp only
 rw [if_neg (by omega),hv]
theorem Sfx.bytes {b q x:List UInt8} {s:RdA} {most:Nat} (h:Sfx b s (bytesB x++q)) (hx:x.length<18446744073709551616) (hm:x.length≤most):∃s',rdB b most s=(x,s')∧Sfx b s' q:=by
 obtain ⟨e1,e2⟩:=h.split
 have hr:=readB_write (b.take s.at') x q (most:=most) hx hm
 rw [←e1,e2] at hr
 refine ⟨⟨s.at'+(bytesB x).length,s.bad⟩,?_,h.past rfl⟩
 unfold rdB
 rw [hr]
 simp
def MetaFit (r:MetaA):Prop:=
 (0≤r.num∧r.num≤9223372036854775807)∧(0≤r.count∧r.count≤9223372036854775807)∧(0≤r.index∧r.index≤9223372036854775807)∧(0≤r.low∧r.low≤9223372036854775807)∧(0≤r.clock∧r.clock≤9223372036854775807)∧(0≤r.bytes∧r.bytes≤9223372036854775807)
theorem uintsB_cons (n:Int) (l:List Int):uintsB (n :: l)=uintB (n%18446744073709551616).toNat++uintsB l:=rfl
theorem Sfx.meta {b q:List UInt8} {s:RdA} {r:MetaA} (h:Sfx b s (metaB r++q)) (hf:MetaFit r) (hb:b.length<18446744073709551616):∃s',rdMetaG (rdN b) (rdB b b.length) s=(r,s')∧Sfx b s' q:=by
 unfold metaB at h
 simp only [uintsB_cons,List.append_assoc] at h
 obtain ⟨f1,f2,f3,f4,f5,f6⟩:=hf
 obtain ⟨s1,r1,h1⟩:=h.num f1.1 f1.2
 obtain ⟨s2,r2,h2⟩:=h1.num f2.1 f2.2
 obtain ⟨s3,r3,h3⟩:=h2.num f3.1 f3.2
 obtain ⟨s4,r4,h4⟩:=h3.num f4.1 f4.2
 obtain ⟨s5,r5,h5⟩:=h4.num f5.1 f5.2
 obtain ⟨s6,r6,h6⟩:=h5.num f6.1 f6.2
 have h6':Sfx b s6 (bytesB r.first++(bytesB r.last++q)):=h6
 have hl6:=h6'.len
 simp only [bytesB,List.length_append] at hl6
 obtain ⟨s7,r7,h7⟩:=h6'.bytes (most:=b.length) (by omega) (by omega)
 obtain ⟨s8,r8,h8⟩:=h7.bytes (most:=b.length) (by omega) (by omega)
 refine ⟨s8,?_,h8⟩
 unfold rdMetaG
 simp only [r1,r2,r3,r4,r5,r6,r7,r8]
theorem Sfx.runs {b:List UInt8} (hb:b.length<18446744073709551616):∀(l:List MetaA) {q:List UInt8} {s:RdA},Sfx b s ((l.map metaB).flatten++q)→(∀r∈l,MetaFit r)→∃s',rdRunsG (rdMetaG (rdN b) (rdB b b.length)) l.length s=(l,s')∧Sfx b s' q
 | [],q,s,h,_=>⟨s,rfl,h⟩
 | r :: l,q,s,h,hf=>by
  have h':Sfx b s (metaB r++((l.map metaB).flatten++q)):=by simpa using h
  obtain ⟨s1,r1,h1⟩:=h'.meta (hf r (by simp)) hb
  obtain ⟨s2,r2,h2⟩:=Sfx.runs hb l h1 (fun x hx=>hf x (by simp [hx]))
  refine ⟨s2,?_,h2⟩
  rw [List.length_cons,rdRunsG,if_neg (by rw [h.ok];decide),r1,r2]
def VerFit (x:VerA):Prop:=
 (0≤x.gen∧x.gen≤9223372036854775807)∧(0≤x.flushed∧x.flushed≤9223372036854775807)∧(0≤x.next∧x.next≤9223372036854775807)∧(0≤x.low∧x.low≤9223372036854775807)∧(0≤x.clock∧x.clock≤9223372036854775807)∧
 x.state.length≤131072∧x.runs.length≤64∧∀r∈x.runs,MetaFit r
theorem rdVer_body {x:VerA} (hf:VerFit x) (hb:(bodyB x).length<18446744073709551616):∃s',rdVerG (rdN (bodyB x)) (rdB (bodyB x) 131072) (rdB (bodyB x) (bodyB x).length)=(x,s')∧s'.bad=false:=by
 obtain ⟨f1,f2,f3,f4,f5,f6,f7,f8⟩:=hf
 have h:Sfx (bodyB x) ⟨0,false⟩ (bodyB x):=⟨rfl,Nat.zero_le _,rfl⟩
 obtain ⟨b,hbd⟩:∃b,b=bodyB x:=⟨_,rfl⟩
 have h':Sfx b ⟨0,false⟩ (uintsB [x.gen,x.flushed,x.next,x.low,x.clock]++(bytesB x.state++(uintsB [(x.runs.length:Int)]++(x.runs.map metaB).flatten))):=by rw [hbd];exact h
 rw [←hbd] at hb⊢
 simp only [uintsB_cons,List.append_assoc] at h'
 obtain ⟨s1,r1,h1⟩:=h'.num f1.1 f1.2
 obtain ⟨s2,r2,h2⟩:=h1.num f2.1 f2.2
 obtain ⟨s3,r3,h3⟩:=h2.num f3.1 f3.2
 obtain ⟨s4,r4,h4⟩:=h3.num f4.1 f4.2
 obtain ⟨s5,r5,h5⟩:=h4.num f5.1 f5.2
 obtain ⟨s6,r6,h6⟩:=Sfx.bytes (q:=uintB ((x.runs.length:Int)%18446744073709551616).toNat++((x.runs.map metaB).flatten ++ [])) (by simpa [uintsB] using h5) (most:=131072) (by omega) f6
 obtain ⟨s7,r7,h7⟩:=h6.num (by omega) (by omega)
 obtain ⟨s8,r8,h8⟩:=Sfx.runs hb x.runs h7 f8
 refine ⟨s8,?_,h8.ok⟩
 unfold rdVerG
 simp only [r1,r2,r3,r4,r5,r6,r7]
 rw [show min ((x.runs.length:Int)).toNat 65=x.runs.length from by omega,r8]
theorem okA_fits {x:VerA} (h:okA x=true) {r:MetaA} (hr:r∈x.runs):fitsA x r=true:=by
 unfold okA at h
 simp only [Bool.and_eq_true,List.all_eq_true,List.mem_range] at h
 obtain ⟨k,hk,rfl⟩:=List.getElem_of_mem hr
 have h1:=h.2 k hk
 rw [runOkA_eq hk] at h1
 simp only [Bool.and_eq_true] at h1
 exact h1.1.1
theorem okA_fit {x:VerA} (h:okA x=true) (hc:∀r∈x.runs,r.count≤9223372036854775807):VerFit x:=by
 have h1:=okA_head h
 simp only [headA,Bool.and_eq_true,ins,decide_eq_true_eq] at h1
 obtain ⟨⟨⟨⟨⟨⟨a1,a2⟩,a3⟩,a4⟩,a5⟩,a6⟩,a7⟩:=h1
 refine ⟨by omega,by omega,by omega,by omega,by omega,a6,a7,fun r hr=>?_⟩
 have h2:=okA_fits h hr
 have h3:=hc r hr
 simp only [fitsA,Bool.and_eq_true,ins,decide_eq_true_eq] at h2
 obtain ⟨⟨⟨⟨⟨b1,b2⟩,b3⟩,b4⟩,⟨⟨b5,b6⟩,b7⟩⟩,-⟩:=h2
 exact ⟨by omega,by omega,by omega,by omega,by omega,by omega⟩
theorem decode_encode {x:VerA} (h:okA x=true) (hc:∀r∈x.runs,r.count≤9223372036854775807):decodeA (encodeB x)=some x:=by
 have hbl:=body_len h
 obtain ⟨s',hr,hbad⟩:=rdVer_body (okA_fit h hc) (by omega)
 have hfr:=readFr_write magicB [] (b:=bodyB x) (by omega)
 rw [List.append_nil] at hfr
 have e8:magicB.length=8:=rfl
 rw [e8] at hfr
 have hfr':readFr (encodeB x) 8=(bodyB x,8+(frameB (bodyB x)).length,0):=hfr
 have hlen:(encodeB x).length=8+(frameB (bodyB x)).length:=by simp [encodeB,magicB];omega
 have htk:(encodeB x).take 8=magicB:=by unfold encodeB;exact List.take_left' rfl
 unfold decodeA
 rw [htk,hfr',hlen]
 simp only [hr,hbad]
 rw [if_neg (by simp),if_neg (by simp),if_neg (by simp),if_pos (by first|exact ⟨h,trivial⟩|exact ⟨h,rfl⟩)]
theorem encA_len {x:VerA} (h:okA x=true):(encodeB x).length≤400000∧20≤(encodeB x).length:=by
 have hb:=(body_len h).1
 have h2:=frameB_length (bodyB x)
 simp [encodeB,magicB]
 omega
theorem lookP_up {a:DiskA} {n:ByteArray} {t:Bool} (hd:a.down=false) (ho:nameOk n.data.toList=true):lookP a n t=if t=true∧findP a.files n=none then 42 else 0:=by
 unfold lookP lookRes
 rw [hd,ho]
 cases t<;>cases findP a.files n<;>simp
theorem findP_none {l:List FileA} {n:ByteArray} (h:∀f∈l,f.name≠n):findP l n=none:=by
 unfold findP
 rw [List.find?_eq_none]
 intro f hf
 rw [beq_bytes]
 simpa using h f hf
theorem findP_last {l:List FileA} {n:ByteArray} (h:∀f∈l,f.name≠n) (d:List UInt8) (k:Nat):findP (l ++ [⟨n,d,k⟩]) n=some ⟨n,d,k⟩:=by
 have h1:=findP_none h
 unfold findP at h1⊢
 rw [List.find?_append,h1]
 simp [beq_bytes]
theorem updA_last {l:List FileA} {n:ByteArray} (h:∀f∈l,f.name≠n) (d:List UInt8) (k:Nat) (g:FileA→FileA):updA (l ++ [⟨n,d,k⟩]) n g=l ++ [g ⟨n,d,k⟩]:=by
 unfold updA
 rw [List.map_append]
 congr 1
 ·rw [List.map_congr_left (g:=id) (fun f hf=>by simp [h f hf]),List.map_id]
 ·simp
theorem dropA_append (l m:List FileA) (n:ByteArray):dropA (l++m) n=dropA l n++dropA m n:=by unfold dropA;rw [List.filter_append]
theorem dropA_same {l:List FileA} {n:ByteArray} (h:∀f∈l,f.name≠n):dropA l n=l:=by
 unfold dropA
 rw [List.filter_eq_self]
 intro f hf
 simpa using h f hf
theorem dropA_last {l:List FileA} {n:ByteArray} (h:∀f∈l,f.name≠n) (d:List UInt8) (k:Nat):dropA (l ++ [⟨n,d,k⟩]) n=l:=by
 rw [dropA_append,dropA_same h]
 simp [dropA]
theorem mem_dropA {l:List FileA} {n:ByteArray} {f:FileA} : f∈dropA l n↔f∈l∧f.name≠n:=by simp [dropA]
theorem usedP_last (l:List FileA) (f:FileA) (a b:DiskA) (ha:a.files=l ++ [f]) (hb:b.files=l):usedP a=usedP b+f.data.length:=by
 unfold usedP
 rw [ha,hb]
 simp
theorem actA_cases (a:DiskA) (co:Option Nat) (F:List FileA) (h:0≤a.armed) :
  (a.armed=1∧∃a',actA a co F=(3,a')∧a'.files=(if co=some 6 then F else a.files)∧a'.down=true∧a'.cap=a.cap∧a'.armed=0)∨
  (a.armed≠1∧∃a',actA a co F=(0,a')∧a'.files=F∧a'.down=a.down∧a'.cap=a.cap∧0≤a'.armed∧(a.armed=0→a'.armed=0)):=by
 unfold actA
 by_cases h0:a.armed=0
 ·rw [if_pos h0]
  exact .inr ⟨by omega,_,rfl,rfl,rfl,rfl,h,fun _=>h0⟩
 ·rw [if_neg h0]
  by_cases h1:a.armed=1
  ·rw [if_pos h1]
   refine .inl ⟨h1,?_⟩
   split
   ·exact ⟨_,rfl,rfl,rfl,rfl,rfl⟩
   ·exact ⟨_,rfl,rfl,rfl,rfl,rfl⟩
  ·rw [if_neg h1]
   exact .inr ⟨h1,_,rfl,rfl,rfl,rfl,by show 0≤a.armed-1;omega,fun e=>absurd e h0⟩
theorem runP_bad {f:DiskA→Int×DiskA} {fs:List (DiskA→Int×DiskA)} {a a':DiskA} {e:Int} (h:f a=(e,a')) (he:e≠0):runP (f :: fs) a=(e,a'):=by
 unfold runP
 rw [h]
 exact if_pos he
theorem runP_ok {f:DiskA→Int×DiskA} {fs:List (DiskA→Int×DiskA)} {a a':DiskA} (h:f a=(0,a')):runP (f :: fs) a=runP fs a':=by
 rw [runP,h]
 simp
section
variable {pre:ByteArray} {b:List UInt8}
def Struck (a:DiskA) (T N:ByteArray) (b:List UInt8) (r:Int×DiskA):Prop:=
 (r.1=0∧r.2.files=dropA (dropA a.files T) N ++ [⟨N,b,b.length⟩]∧r.2.down=false∧r.2.cap=a.cap∧0≤r.2.armed∧(a.armed=0→r.2.armed=0))∨
 (a.armed≠0∧r.1=3∧r.2.down=true∧r.2.cap=a.cap∧r.2.armed=0∧(r.2.files=a.files∨r.2.files=dropA a.files T∨∃k,k≤b.length∧r.2.files=dropA a.files T ++ [⟨T,b,k⟩]))
theorem run4_of {a:DiskA} {T N:ByteArray} (hd:a.down=false) (ha:0≤a.armed) (hT:nameOk T.data.toList=true) (hN:nameOk N.data.toList=true) (hne:T≠N) (hno:∀f∈a.files,f.name≠T) (hc:a.files.length<256) (hb:b.length≤67108864) (hr:b.length≤a.cap-usedP a) :
  Struck a T N b (runP [fun a=>createP a T,fun a=>appendP a T b,fun a=>syncP a T,fun a=>renameP a T N] a):=by
 have hF:dropA a.files T=a.files:=dropA_same hno
 have h1:createP a T=actA a none (a.files ++ [⟨T,[],0⟩]):=by
  unfold createP
  rw [lookP_up hd hT,findP_none hno]
  simp
  omega
 rcases actA_cases a none (a.files ++ [⟨T,[],0⟩]) ha with ⟨e1,a1,q1,f1,d1,c1,m1⟩|⟨e1,a1,q1,f1,d1,c1,m1,z1⟩
 ·have h2:runP [fun a=>createP a T,fun a=>appendP a T b,fun a=>syncP a T,fun a=>renameP a T N] a=(3,a1):=runP_bad (h1.trans q1) (by decide)
  rw [h2]
  exact .inr ⟨by omega,rfl,d1,c1,m1,.inl (by rw [f1];simp)⟩
 have r1:runP [fun a=>createP a T,fun a=>appendP a T b,fun a=>syncP a T,fun a=>renameP a T N] a=runP [fun a=>appendP a T b,fun a=>syncP a T,fun a=>renameP a T N] a1:=runP_ok (h1.trans q1)
 rw [r1]
 rw [hd] at d1
 have u1:usedP a1=usedP a:=by
  rw [usedP_last _ _ a1 a f1 rfl]
  simp
 have p1:findP a1.files T=some ⟨T,[],0⟩:=by rw [f1];exact findP_last hno _ _
 have h2:appendP a1 T b=actA a1 (some 6) (a.files ++ [⟨T,b,0⟩]):=by
  unfold appendP
  rw [lookP_up d1 hT,if_neg (by simp),if_neg (by omega),p1,if_neg (by simp),u1,c1,if_neg (by omega),f1,updA_last hno]
  rfl
 rcases actA_cases a1 (some 6) (a.files ++ [⟨T,b,0⟩]) m1 with ⟨e2,a2,q2,f2,d2,c2,m2⟩|⟨e2,a2,q2,f2,d2,c2,m2,z2⟩
 ·have h3:runP [fun a=>appendP a T b,fun a=>syncP a T,fun a=>renameP a T N] a1=(3,a2):=runP_bad (h2.trans q2) (by decide)
  rw [h3]
  exact .inr ⟨fun e=>by have:=z1 e;omega,rfl,d2,c2.trans c1,m2,.inr (.inr ⟨0,by omega,by rw [f2,hF];simp⟩)⟩
 have r2:runP [fun a=>appendP a T b,fun a=>syncP a T,fun a=>renameP a T N] a1=runP [fun a=>syncP a T,fun a=>renameP a T N] a2:=runP_ok (h2.trans q2)
 rw [r2]
 rw [d1] at d2
 have p2:findP a2.files T=some ⟨T,b,0⟩:=by rw [f2];exact findP_last hno _ _
 have h3:syncP a2 T=actA a2 (some 7) (a.files ++ [⟨T,b,b.length⟩]):=by
  unfold syncP
  rw [lookP_up d2 hT,p2,f2,updA_last hno]
  simp
 rcases actA_cases a2 (some 7) (a.files ++ [⟨T,b,b.length⟩]) m2 with ⟨e3,a3,q3,f3,d3,c3,m3⟩|⟨e3,a3,q3,f3,d3,c3,m3,z3⟩
 ·have h4:runP [fun a=>syncP a T,fun a=>renameP a T N] a2=(3,a3):=runP_bad (h3.trans q3) (by decide)
  rw [h4]
  exact .inr ⟨fun e=>by have:=z2 (z1 e);omega,rfl,d3,(c3.trans c2).trans c1,m3,.inr (.inr ⟨0,by omega,by rw [f3,if_neg (by decide),f2,hF]⟩)⟩
 have r3:runP [fun a=>syncP a T,fun a=>renameP a T N] a2=runP [fun a=>renameP a T N] a3:=runP_ok (h3.trans q3)
 rw [r3]
 rw [d2] at d3
 have p3:findP a3.files T=some ⟨T,b,b.length⟩:=by rw [f3];exact findP_last hno _ _
 have h4:renameP a3 T N=actA a3 (some 8) (dropA a.files N ++ [⟨N,b,b.length⟩]):=by
  unfold renameP
  rw [lookP_up d3 hT,p3,f3,hN]
  simp only [renameF,if_neg hne]
  rw [dropA_append,dropA_append,dropA_same (l:=dropA a.files N) (fun f hf=>hno f (mem_dropA.1 hf).1),show dropA [(⟨T,b,b.length⟩:FileA)] N=[⟨T,b,b.length⟩] from dropA_same (by simpa using hne),show dropA [(⟨T,b,b.length⟩:FileA)] T=[] from by simp [dropA]]
  simp
 have r4:runP [fun a=>renameP a T N] a3=actA a3 (some 8) (dropA a.files N ++ [⟨N,b,b.length⟩]):=by
  rcases actA_cases a3 (some 8) (dropA a.files N ++ [⟨N,b,b.length⟩]) m3 with ⟨e4,a4,q4,-⟩|⟨e4,a4,q4,-⟩
  ·rw [q4];exact runP_bad (h4.trans q4) (by decide)
  ·rw [q4];exact runP_ok (h4.trans q4)
 rw [r4]
 rcases actA_cases a3 (some 8) (dropA a.files N ++ [⟨N,b,b.length⟩]) m3 with ⟨e4,a4,q4,f4,d4,c4,m4⟩|⟨e4,a4,q4,f4,d4,c4,m4,z4⟩
 ·rw [q4]
  exact .inr ⟨fun e=>by have:=z3 (z2 (z1 e));omega,rfl,d4,((c4.trans c3).trans c2).trans c1,m4,.inr (.inr ⟨b.length,by omega,by rw [f4,if_neg (by decide),f3,hF]⟩)⟩
 ·rw [q4]
  refine .inl ⟨rfl,?_,d4.trans d3,((c4.trans c3).trans c2).trans c1,m4,fun e=>z4 (z3 (z2 (z1 e)))⟩
  rw [f4,hF]
theorem dropA_isNone {l:List FileA} {n:ByteArray} (h:findP l n=none):∀f∈l,f.name≠n:=by
 unfold findP at h
 rw [List.find?_eq_none] at h
 intro f hf
 have:=h f hf
 rw [beq_bytes] at this
 simpa using this
theorem stroke_of {a:DiskA} (hd:a.down=false) (ha:0≤a.armed) (hT:nameOk (pre++tempB).data.toList=true) (hN:nameOk (pre++nameB).data.toList=true) (hne:pre++tempB≠pre++nameB) (hc:(dropA a.files (pre++tempB)).length<256) (hb:b.length≤67108864)
  (hr:b.length≤a.cap-usedP { a with files:=dropA a.files (pre++tempB) }) :
  Struck a (pre++tempB) (pre++nameB) b (strokeP a pre b):=by
 suffices h:Struck a (pre++tempB) (pre++nameB) b (runP (stepsP a pre b) a) by
  unfold strokeP
  rw [if_neg (by rcases h with ⟨h,-⟩|⟨-,h,-⟩<;>rw [h]<;>decide)]
  exact h
 unfold stepsP
 generalize pre++tempB=T at *
 generalize pre++nameB=N at *
 rw [lookP_up hd hT]
 cases hf:findP a.files T with
 | none=>
  have hno:=dropA_isNone hf
  rw [dropA_same hno] at hc hr
  simp only [and_self,if_true,show ¬((42:Int)=0) from by decide,if_false,List.nil_append]
  exact run4_of hd ha hT hN hne hno hc hb hr
 | some f0=>
  simp only [reduceCtorEq,and_false,if_false,if_true,List.cons_append,List.nil_append]
  have h1:deleteP a T=actA a (some 9) (dropA a.files T):=by
   unfold deleteP
   rw [lookP_up hd hT,hf]
   simp
  rcases actA_cases a (some 9) (dropA a.files T) ha with ⟨e1,a1,q1,f1,d1,c1,m1⟩|⟨e1,a1,q1,f1,d1,c1,m1,z1⟩
  ·have h2:runP [fun a=>deleteP a T,fun a=>createP a T,fun a=>appendP a T b,fun a=>syncP a T,fun a=>renameP a T N] a=(3,a1):=runP_bad (h1.trans q1) (by decide)
   rw [h2]
   exact .inr ⟨by omega,rfl,d1,c1,m1,.inl (by rw [f1];simp)⟩
  ·have h2:runP [fun a=>deleteP a T,fun a=>createP a T,fun a=>appendP a T b,fun a=>syncP a T,fun a=>renameP a T N] a=runP [fun a=>createP a T,fun a=>appendP a T b,fun a=>syncP a T,fun a=>renameP a T N] a1:=runP_ok (h1.trans q1)
   rw [h2]
   have hno:∀f∈a1.files,f.name≠T:=by rw [f1];exact fun f hf=>(mem_dropA.1 hf).2
   have h3:=run4_of (b:=b) (a:=a1) (d1.trans hd) m1 hT hN hne hno (by rw [f1];exact hc) hb (by rw [c1,show usedP a1=usedP { a with files:=dropA a.files T } from by unfold usedP;rw [f1]];exact hr)
   rcases h3 with ⟨g1,g2,g3,g4,g5,g6⟩|⟨g0,g1,g2,g3,g4,g5⟩
   ·exact .inl ⟨g1,by rw [g2,dropA_same hno,f1],g3,g4.trans c1,g5,fun e=>g6 (z1 e)⟩
   ·refine .inr ⟨fun e=>g0 (z1 e),g1,g2,g3.trans c1,g4,.inr ?_⟩
    rw [dropA_same hno,f1] at g5
    rcases g5 with g5|g5
    ·exact .inl g5
    ·exact g5
theorem stroke_full {a:DiskA} (hd:a.down=false) (ha:a.armed=0) (hT:nameOk (pre++tempB).data.toList=true) (hc:(dropA a.files (pre++tempB)).length<256) (hb:b.length≤67108864)
  (hr:a.cap-usedP { a with files:=dropA a.files (pre++tempB) } < b.length) :
  (strokeP a pre b).1=4∧(strokeP a pre b).2.files=dropA a.files (pre++tempB)∧(strokeP a pre b).2.down=false∧(strokeP a pre b).2.cap=a.cap∧(strokeP a pre b).2.armed=0:=by
 have act0:∀(a:DiskA) (co:Option Nat) (F:List FileA),a.armed=0→∃a',actA a co F=(0,a')∧a'.files=F∧a'.down=a.down∧a'.cap=a.cap∧a'.armed=0:=by
  intro a co F h
  unfold actA
  rw [if_pos h]
  exact ⟨_,rfl,rfl,rfl,rfl,h⟩
 have main:∀a1:DiskA,a1.down=false→a1.armed=0→a1.cap=a.cap→a1.files=dropA a.files (pre++tempB)→
   ∃a2,runP [fun a=>createP a (pre++tempB),fun a=>appendP a (pre++tempB) b,fun a=>syncP a (pre++tempB),fun a=>renameP a (pre++tempB) (pre++nameB)] a1=(4,a2)∧a2.files=dropA a.files (pre++tempB) ++ [⟨pre++tempB,[],0⟩]∧a2.down=false∧a2.cap=a.cap∧a2.armed=0:=by
  intro a1 d1 m1 c1 f1
  generalize pre++tempB=T at *
  generalize pre++nameB=N at *
  have hno:∀f∈a1.files,f.name≠T:=by rw [f1];exact fun f hf=>(mem_dropA.1 hf).2
  have h1:createP a1 T=actA a1 none (a1.files ++ [⟨T,[],0⟩]):=by
   unfold createP
   rw [lookP_up d1 hT,findP_none hno,f1]
   simp
   omega
  obtain ⟨a2,q2,f2,d2,c2,m2⟩:=act0 a1 none (a1.files ++ [⟨T,[],0⟩]) m1
  rw [d1] at d2
  have p2:findP a2.files T=some ⟨T,[],0⟩:=by rw [f2];exact findP_last hno _ _
  have u2:usedP a2=usedP { a with files:=dropA a.files T }:=by
   rw [usedP_last _ _ a2 a1 f2 rfl]
   unfold usedP
   rw [f1]
   simp
  have h2:appendP a2 T b=(4,a2):=by
   unfold appendP
   rw [lookP_up d2 hT,if_neg (by simp),if_neg (by omega),p2,if_neg (by simp),u2,c2,c1,if_pos (by omega)]
  refine ⟨a2,?_,by rw [f2,f1],d2,c2.trans c1,m2⟩
  rw [runP_ok (h1.trans q2)]
  exact runP_bad h2 (by decide)
 have fin:∀a2:DiskA,a2.files=dropA a.files (pre++tempB) ++ [⟨pre++tempB,[],0⟩]→a2.down=false→a2.cap=a.cap→a2.armed=0→
   (deleteP a2 (pre++tempB)).2.files=dropA a.files (pre++tempB)∧(deleteP a2 (pre++tempB)).2.down=false∧(deleteP a2 (pre++tempB)).2.cap=a.cap∧(deleteP a2 (pre++tempB)).2.armed=0:=by
  intro a2 f2 d2 c2 m2
  generalize pre++tempB=T at *
  have hno:∀f∈dropA a.files T,f.name≠T:=fun f hf=>(mem_dropA.1 hf).2
  have p2:findP a2.files T=some ⟨T,[],0⟩:=by rw [f2];exact findP_last hno _ _
  have h1:deleteP a2 T=actA a2 (some 9) (dropA a.files T):=by
   unfold deleteP
   rw [lookP_up d2 hT,p2,f2,dropA_last hno]
   simp
  obtain ⟨a3,q3,f3,d3,c3,m3⟩:=act0 a2 (some 9) (dropA a.files T) m2
  rw [h1,q3]
  exact ⟨f3,d3.trans d2,c3.trans c2,m3⟩
 have all:∃a2,runP (stepsP a pre b) a=(4,a2)∧a2.files=dropA a.files (pre++tempB) ++ [⟨pre++tempB,[],0⟩]∧a2.down=false∧a2.cap=a.cap∧a2.armed=0:=by
  unfold stepsP
  rw [lookP_up hd hT]
  cases hf:findP a.files (pre++tempB) with
  | none=>
   simp only [and_self,if_true,show ¬((42:Int)=0) from by decide,if_false,List.nil_append]
   exact main a hd ha rfl (dropA_same (dropA_isNone hf)).symm
  | some f0=>
   simp only [reduceCtorEq,and_false,if_false,if_true,List.cons_append,List.nil_append]
   have h1:deleteP a (pre++tempB)=actA a (some 9) (dropA a.files (pre++tempB)):=by
    unfold deleteP
    rw [lookP_up hd hT,hf]
    simp
   obtain ⟨a1,q1,f1,d1,c1,m1⟩:=act0 a (some 9) (dropA a.files (pre++tempB)) ha
   rw [runP_ok (h1.trans q1)]
   exact main a1 (d1.trans hd) m1 c1 f1
 obtain ⟨a2,q,f2,d2,c2,m2⟩:=all
 obtain ⟨g1,g2,g3,g4⟩:=fin a2 f2 d2 c2 m2
 unfold strokeP
 rw [q]
 simp only [if_true]
 exact ⟨trivial,g1,g2,g3,g4⟩
theorem loadP_of {a:DiskA} (hd:a.down=false) (hT:nameOk (pre++tempB).data.toList=true) (hN:nameOk (pre++nameB).data.toList=true) (hp:pre.size≤32) {m:Option VerA}
  (hm:(findP a.files (pre++nameB)).map (·.data)=m.map encodeB) (ho:∀x∈m,okA x=true∧∀r∈x.runs,r.count≤9223372036854775807) :
  (loadP a pre).1=(m,0)∧(loadP a pre).2.files=a.files∧(loadP a pre).2.down=false∧(loadP a pre).2.cap=a.cap∧(loadP a pre).2.armed=a.armed:=by
 have h1:askedP a pre=0:=by
  unfold askedP
  rw [lookP_up hd hT]
  cases findP a.files (pre++tempB)<;>simp<;>omega
 unfold loadP
 rw [h1,lookP_up hd hN]
 cases m with
 | none=>
  have hf:findP a.files (pre++nameB)=none:=by simpa using hm
  rw [hf]
  simp [hd]
 | some x=>
  obtain ⟨f,hf,hfd⟩:∃f,findP a.files (pre++nameB)=some f∧f.data=encodeB x:=by
   cases h:findP a.files (pre++nameB) with
   | none=>rw [h] at hm;simp at hm
   | some f=>rw [h] at hm;exact ⟨f,rfl,by simpa using hm⟩
  rw [hf]
  simp only [reduceCtorEq,and_false,if_false,ne_eq,not_true_eq_false,Option.map_some,Option.getD_some,hfd,decode_encode (ho x rfl).1 (ho x rfl).2]
  exact ⟨by simp,rfl,hd,rfl,rfl⟩
theorem askedP_up {a:DiskA} (hd:a.down=false) (hT:nameOk (pre++tempB).data.toList=true) (hp:pre.size≤32):askedP a pre=0:=by
 unfold askedP
 rw [lookP_up hd hT]
 cases findP a.files (pre++tempB)<;>simp<;>omega
theorem swapP_of {a:DiskA} (hd:a.down=false) (hT:nameOk (pre++tempB).data.toList=true) (hN:nameOk (pre++nameB).data.toList=true) (hp:pre.size≤32) {m:Option VerA} {x:VerA}
  (hm:(findP a.files (pre++nameB)).map (·.data)=m.map encodeB) (ho:∀x∈m,okA x=true∧∀r∈x.runs,r.count≤9223372036854775807) (hx:okA x=true) (hg:x.gen=(m.map (·.gen)).getD 0+1) :
  swapP a pre x=strokeP (loadP a pre).2 pre (encodeB x):=by
 obtain ⟨h1,-⟩:=loadP_of hd hT hN hp hm ho
 unfold swapP
 rw [askedP_up hd hT hp,hx,h1]
 simp [hg]
end
def GoodM (m:Option VerA):Prop:=∀x∈m,okA x=true∧∀r∈x.runs,r.count≤9223372036854775807
def followA (x:VerA) (g:Int):VerA:=if okA { x with gen:=g } = true then { x with gen:=g } else ⟨g,g%1000,1+g%7,0,1,[],[]⟩
theorem followA_ok {x:VerA} {g:Int} (h:1≤g∧g≤1000):okA (followA x g)=true:=by
 unfold followA
 split
 ·assumption
 ·unfold okA headA ins
  simp
  omega
theorem followA_gen (x:VerA) (g:Int):(followA x g).gen=g:=by unfold followA;split<;>rfl
theorem followA_count {x:VerA} {g:Int} (h:∀r∈x.runs,r.count≤9223372036854775807):∀r∈(followA x g).runs,r.count≤9223372036854775807:=by
 unfold followA
 split
 ·exact h
 ·intro r hr;cases hr
theorem follow_any {w:World} {v:Value} {x:VerA} {g:Int} (hv:VerAt w v x) (hl:∀r∈x.runs,r.first.length≤140737488351232∧r.last.length≤140737488351232) (hg:1≤g∧g≤1000) :
  Calls Tryz.prog 15 #[v,.int .i64 g] w fun e w'=>∃v',e=.returned v'∧(∀W,VerAt W v x→VerAt W v' (followA x g))∧Upd (fun _=>False) w w':=by
 obtain ⟨s1,d1,s2,d2,rfl,hvs,hvr⟩:=hv
 have HV:=hid (show ∀W,BAt W (.slice s1 x.state.length d1) x.state→RunsAt W (.slice s2 x.runs.length d2) x.runs→VerAt W (.agg #[.int .i64 g,.int .i64 x.flushed,.int .i64 x.next,.int .i64 x.low,.int .i64 x.clock,.slice s1 x.state.length d1,.slice s2 x.runs.length d2]) { x with gen:=g } from fun W h1 h2=>⟨s1,d1,s2,d2,rfl,h1,h2⟩)
 have Km:=hid hvs;have Kn:=hid hvr;have HL:=hid hl
 have Kb:=hid (show followA x g=if okA { x with gen:=g } = true then { x with gen:=g } else ⟨g,g%1000,1+g%7,0,1,[],[]⟩ from rfl)
 obtain ⟨m1,hm1⟩:∃m,m=x.state.length:=⟨_,rfl⟩
 obtain ⟨m2,hm2⟩:∃m,m=x.runs.length:=⟨_,rfl⟩
 rw [←hm1,←hm2] at HV⊢
 rw [←hm1] at Km
 rw [←hm2] at Kn
 have Kq:=hid hm1;have Kr:=hid hm2;have HG:=hid hg
 have Kp:=hid (show ∀W,VerAt W (.agg #[.int .i64 x.gen,.int .i64 x.flushed,.int .i64 x.next,.int .i64 x.low,.int .i64 x.clock,.slice s1 m1 d1,.slice s2 m2 d2]) x→BAt W (.slice s1 m1 d1) x.state∧RunsAt W (.slice s2 m2 d2) x.runs from by
  rintro W ⟨s1',d1',s2',d2',e,h1,h2⟩
  rw [hm1,hm2] at e⊢
  injection e with e
  simp only [Array.mk.injEq,List.cons.injEq,true_and,and_true] at e
  obtain ⟨e1,e2⟩:=e
  rw [←e1] at h1
  rw [←e2] at h2
  exact ⟨h1,h2⟩)
 have hu1:=((Upd.refl (fun _=>False) w).alloc (.cells #[.int .i64 x.gen,.int .i64 x.flushed,.int .i64 x.next,.int .i64 x.low,.int .i64 x.clock,.slice s1 m1 d1,.slice s2 m2 d2] 25)).alloc (.cells (verC 0 0 0 0 0 (.slice none 0 0) (.slice none 0 0)) 25)
 have hr1:=heap_alloc_new w (.cells #[.int .i64 x.gen,.int .i64 x.flushed,.int .i64 x.next,.int .i64 x.low,.int .i64 x.clock,.slice s1 m1 d1,.slice s2 m2 d2] 25)
 have hr1':=(Upd.refl (fun _=>False) (w.alloc (.cells #[.int .i64 x.gen,.int .i64 x.flushed,.int .i64 x.next,.int .i64 x.low,.int .i64 x.clock,.slice s1 m1 d1,.slice s2 m2 d2] 25))).alloc (.cells (verC 0 0 0 0 0 (.slice none 0 0) (.slice none 0 0)) 25) |>.get hr1 (fun e=>e)
 have hr2:=heap_alloc_new (w.alloc (.cells #[.int .i64 x.gen,.int .i64 x.flushed,.int .i64 x.next,.int .i64 x.low,.int .i64 x.clock,.slice s1 m1 d1,.slice s2 m2 d2] 25)) (.cells (verC 0 0 0 0 0 (.slice none 0 0) (.slice none 0 0)) 25)
 rw [World.size_alloc] at hr2
 have Kj:=hid hu1;have Kc:=hid hr1';have Ke:=hid hr2
 clear hvs hvr hl hm1 hm2 hu1 hr1 hr1' hr2 hg
 go_enter Tryz.func15,Tryz.ntmps15
 go_upto_region 1 with fail
 obtain ⟨p,hp⟩:∃p,p=w.heap.size:=⟨_,rfl⟩
 obtain ⟨q,hq⟩:∃q,q=w.heap.size+1:=⟨_,rfl⟩
 rw [←hp] at Kc
 rw [←hq] at Ke
 (try simp only [World.size_alloc])
 rw [←hq,←hp]
 have Kf:=hid (And.intro hp hq)
 have Ko:=hid (show p≠q by omega)
 generalize (w.alloc (.cells #[.int .i64 x.gen,.int .i64 x.flushed,.int .i64 x.next,.int .i64 x.low,.int .i64 x.clock,.slice s1 m1 d1,.slice s2 m2 d2] 25)).alloc (.cells #[.int .i64 0,.int .i64 0,.int .i64 0,.int .i64 0,.int .i64 0,.slice none 0 0,.slice none 0 0] 25)=W1 at Kj Kc Ke⊢
 clear hp hq
 obtain ⟨⟨z0,z1,z2,z3,z4,z5,z6⟩,⟨y0,y1,y2,y3,y4,y5,y6⟩,hzl⟩:=verCells Kc.out
 go_upto_region 2 with fail
 have Kd:=hid (Kj.out.setCell (p:=⟨p,0,none⟩) (fun e=>by have:=Kf.out.1;simp only at e;omega) (.int .i64 g))
 have hb2:=heap_setCell_at W1 p 0 _ _ (.int .i64 g) Kc.out
 have Kg:=hid (show (W1.setCell ⟨p,0,none⟩ (.int .i64 g)).heap[p]? = some (.cells #[.int .i64 g,.int .i64 x.flushed,.int .i64 x.next,.int .i64 x.low,.int .i64 x.clock,.slice s1 m1 d1,.slice s2 m2 d2] 25 (0,0)) from by rw [hb2];simp)
 have Kk:=hid (show (W1.setCell ⟨p,0,none⟩ (.int .i64 g)).heap[q]? = some (.cells (verC 0 0 0 0 0 (.slice none 0 0) (.slice none 0 0)) 25 (0,0)) from by rw [heap_setCell_ne _ _ _ _ (fun e=>Ko.out e.symm)];exact Ke.out)
 generalize W1.setCell ⟨p,0,none⟩ (.int .i64 g)=W2 at Kd Kg Kk⊢
 clear hb2 z0 z1 z2 z3 z4 z5 z6 y0 y1 y2 y3 y4 y5 y6 hzl Kj Kc Ke
 obtain ⟨⟨z0,z1,z2,z3,z4,z5,z6⟩,-,hzl⟩:=verCells Kg.out
 have Ka:=hid (refCheck10_any (HV.out W2 (Km.out.keep Kd.out) (Kn.out.keep Kd.out)) HL.out)
 by_cases hok:okA { x with gen:=g } = true
 ·rw [show checkA { x with gen:=g } = 0 from by unfold checkA;rw [if_pos hok]] at Ka
  rw [if_pos hok] at Kb
  clear hok
  go_wp2_with fail
  refine Ka.out.mono ?_
  rintro e W3 ⟨rfl,hu3⟩
  have Kl:=hid (Kd.out.trans hu3 (fun _ _ e=>e))
  have hb3:=hu3.get Kg.out (fun e=>e)
  have hq3:=hu3.get Kk.out (fun e=>e)
  clear hu3 z0 z1 z2 z3 z4 z5 z6 hzl Ka
  obtain ⟨⟨z0,z1,z2,z3,z4,z5,z6⟩,-,hzl⟩:=verCells hb3
  obtain ⟨⟨x0,x1,x2,x3,x4,x5,x6⟩,⟨y0,y1,y2,y3,y4,y5,y6⟩,hyl⟩:=verCells hq3
  have HO:=hid (And.intro (verOut_at hq3 g x.flushed x.next x.low x.clock (.slice s1 m1 d1) (.slice s2 m2 d2)) (verOut_upd Kl.out (p:=q) (fun e=>by have:=Kf.out.2;omega) g x.flushed x.next x.low x.clock (.slice s1 m1 d1) (.slice s2 m2 d2)))
  clear hb3 hq3
  go_wp2
  (try simp only [Exit.inBlock,Exit.then])
  refine bodyPost_ret (results_ver1 rfl _ _ q _ rfl rfl HO.out.1) rfl ?_
  refine ⟨_,rfl,fun W hW=>?_,HO.out.2⟩
  rw [Kb.out]
  obtain ⟨h1,h2⟩:=Kp.out W hW
  exact HV.out W h1 h2
 ·have hok':okA { x with gen:=g } = false:=by simpa using hok
  rw [show checkA { x with gen:=g } = 101 from by unfold checkA;rw [hok'];rfl] at Ka
  rw [if_neg hok] at Kb
  clear hok hok'
  go_wp2_with fail
  refine Ka.out.mono ?_
  rintro e W3 ⟨rfl,hu3⟩
  have Kl:=hid (Kd.out.trans hu3 (fun _ _ e=>e))
  have hb3:=hu3.get Kg.out (fun e=>e)
  have hq3:=hu3.get Kk.out (fun e=>e)
  clear hu3 z0 z1 z2 z3 z4 z5 z6 hzl Ka
  obtain ⟨⟨v0,v1,v2,v3,v4,v5,v6⟩,⟨z0,z1,z2,z3,z4,z5,z6⟩,hzl⟩:=verCells hb3
  obtain ⟨a,ha⟩:∃a,a=g%1000:=⟨_,rfl⟩
  obtain ⟨b,hb⟩:∃b,b=g%7:=⟨_,rfl⟩
  rw [←ha,←hb] at Kb
  have hg1:g.tmod 1000=a:=by rw [ha];exact Int.tmod_eq_emod_of_nonneg (by have:=HG.out;omega)
  have hg7:g.tmod 7=b:=by rw [hb];exact Int.tmod_eq_emod_of_nonneg (by have:=HG.out;omega)
  have hb0:0≤b:=by omega
  have hb7:b<7:=by omega
  have Kh:=hid (And.intro (verOut_at hb3 g a (1+b) 0 1 (.slice none 0 0) (.slice none 0 0)) (verOut_upd Kl.out (p:=p) (fun e=>by have:=Kf.out.1;omega) g a (1+b) 0 1 (.slice none 0 0) (.slice none 0 0)))
  have Ki:=hid (show (verOut W3 p g a (1+b) 0 1 (.slice none 0 0) (.slice none 0 0)).heap[q]? = some (.cells (verC 0 0 0 0 0 (.slice none 0 0) (.slice none 0 0)) 25 (0,0)) from by
   have hne:∀j:Nat,q≠(⟨p,j,none⟩:Addr).block:=fun j e=>Ko.out e.symm
   unfold verOut
   rw [heap_setCell_ne _ _ _ _ (hne 6),heap_setCell_ne _ _ _ _ (hne 5),heap_setCell_ne _ _ _ _ (hne 4),heap_setCell_ne _ _ _ _ (hne 3),heap_setCell_ne _ _ _ _ (hne 2),heap_setCell_ne _ _ _ _ (hne 1),heap_setCell_ne _ _ _ _ (hne 0)]
   exact hq3)
  clear hb3 hq3 ha hb
  go_upto_region 4 with fail
  clear v0 v1 v2 v3 v4 v5 v6 z0 z1 z2 z3 z4 z5 z6 hzl hg1 hg7 hb0 hb7
  unfold verOut at Kh Ki
  generalize (((((((W3.setCell ⟨p,0,none⟩ (.int .i64 g)).setCell ⟨p,1,none⟩ (.int .i64 a)).setCell ⟨p,2,none⟩ (.int .i64 (1+b))).setCell ⟨p,3,none⟩ (.int .i64 0)).setCell ⟨p,4,none⟩ (.int .i64 1)).setCell ⟨p,5,none⟩ (.slice none 0 0)).setCell ⟨p,6,none⟩ (.slice none 0 0))=W4 at Kh Ki⊢
  obtain ⟨⟨x0,x1,x2,x3,x4,x5,x6⟩,-,hxl⟩:=verCells Kh.out.1
  obtain ⟨⟨q0,q1,q2,q3,q4,q5,q6⟩,⟨y0,y1,y2,y3,y4,y5,y6⟩,hyl⟩:=verCells Ki.out
  have HO:=hid (And.intro (verOut_at Ki.out g a (1+b) 0 1 (.slice none 0 0) (.slice none 0 0)) (verOut_upd Kh.out.2 (p:=q) (fun e=>by have:=Kf.out.2;omega) g a (1+b) 0 1 (.slice none 0 0) (.slice none 0 0)))
  go_wp2
  (try simp only [Exit.inBlock,Exit.then])
  refine bodyPost_ret (results_ver1 rfl _ _ q _ rfl rfl HO.out.1) rfl ?_
  refine ⟨_,rfl,fun W hW=>?_,HO.out.2⟩
  rw [Kb.out]
  exact ⟨none,0,none,0,rfl,⟨none,0,rfl,by simp,by simp,(fun _=>⟨rfl,rfl⟩),(fun j hj=>absurd hj (by simp))⟩,⟨none,0,rfl,by simp,by simp,(fun k hk=>absurd hk (by simp))⟩⟩
end Go.Proofs.YtgaidmohdhaonaaGreatDoor
namespace Go.Proofs.YtgaidmohdhaonaaGreatDoor
open Go
section
variable {P:Program} {Q:Exit→Act→World→Prop} {md:Region.Mode} {S:World→Prop} {z:Nat}
end
end Go.Proofs.YtgaidmohdhaonaaGreatDoor
namespace Go.Proofs.YtgaidmohdhaonaaGreatDoor
open Go Go.RowKit
end Go.Proofs.YtgaidmohdhaonaaGreatDoor
namespace Go.Proofs.YtgaidmohdhaonaaGreatDoor
end Go.Proofs.YtgaidmohdhaonaaGreatDoor
namespace Go.Proofs.YtgaidmohdhaonaaGreatDoor
open Go Go.RowKit
theorem rowBytes:RowTy 22 5 1 1:=by
 obtain ⟨i0,hi,hz0,hz1,hz2⟩:=info_parts Tryz.infoByteR
 exact ⟨Tryz.underlying22,⟨i0,_,hi,hz0,hz1,hz2,rfl⟩,by decide,by decide⟩
theorem rowLists:RowTy 43 22 1 24:=by
 obtain ⟨i0,hi,hz0,hz1,hz2⟩:=info_parts Tryz.infoBytesR
 exact ⟨Tryz.underlying43,⟨i0,_,hi,hz0,hz1,hz2,rfl⟩,by decide,by decide⟩
theorem SRow.of_data {w:World} {v:Value} {bs:List UInt8} (h:DataIs w v bs):SRow w 5 1 v bs.length (bs.map byteV):=by
 refine ⟨by simp,?_⟩
 rcases h with ⟨rfl,rfl⟩|⟨g,cap,cur,rfl,hg,h1,h2,h3,h4⟩
 ·exact .inl ⟨rfl,rfl⟩
 ·exact .inr ⟨g,cap,cur,rfl,hg,h1,h3,by rw [Nat.mul_one];exact h2,by simpa using h4⟩
theorem SRow.data {w:World} {v:Value} {n:Nat} {bs:List UInt8} (h:SRow w 5 1 v n (bs.map byteV)):DataIs w v bs:=by
 have hn:n=bs.length:=by have:=h.1;simpa using this.symm
 subst hn
 rcases h.2 with ⟨rfl,h0⟩|⟨g,cap,cur,rfl,hg,h1,h2,h3,h4⟩
 ·exact .inl ⟨rfl,List.eq_nil_of_length_eq_zero h0⟩
 ·exact .inr ⟨g,cap,cur,rfl,hg,h1,by rw [Nat.mul_one] at h3;exact h3,h2,by simpa using h4⟩
theorem SRow.set {w:World} {E:TypeId} {z n m:Nat} {v u:Value} {xs:List Value} (h:SRow w E z v n xs) (hm:m<n*z):∃g cap old,v=.slice (some ⟨g,0,none⟩) n cap∧SRow (w.setCell ⟨g,m,none⟩ u) E z v n (xs.set m u)∧
  w.cell? ⟨g,m,none⟩=some old∧w.frozen? ⟨g,m,none⟩=false∧g<w.heap.size∧n≤cap∧cap≤9223372036854775807:=by
 obtain ⟨hl,hr⟩:=h
 rcases hr with ⟨rfl,hz⟩|⟨g,cap,cur,rfl,hg,h1,h2,h3,h4⟩
 ·subst hz;simp at hm
 ·have hlt:m<cur.size:=Nat.lt_of_lt_of_le hm (Nat.le_trans (Nat.mul_le_mul_right _ h1) h3)
  refine ⟨g,cap,cur[m],rfl,⟨by simpa using hl,.inr ⟨g,cap,cur.setIfInBounds m u,rfl,heap_setCell_at _ _ _ _ _ _ hg,h1,h2,by simpa using h3,?_⟩⟩,?_,frozen_of_row _ _ _ _ _ hg,lt_of_heap hg,h1,by simpa [maxLen] using h2⟩
  ·rw [Array.toList_setIfInBounds,List.take_set,h4]
  ·rw [cell_of_row _ _ _ _ _ _ hg,Array.getElem?_eq_getElem hlt]
section
variable {T E:TypeId} {z b:Nat}
theorem RowTy.join (hr:RowTy T E z b) {w:World} {v s:Value} {n m:Nat} {xs ys:List Value} (h:SRow w E z v n xs) (hs:SRow w E z s m ys) (h1:∀u∈ys,u.oneCell'=true) (hn:n+m≤3000000000) (ty:TypeId) :
  ∃v' w',(Builtin.append_ #[T,T] ty #[v,s]).run Tryz.prog w=.ok v' w'∧SRow w' E z v' (n+m) (xs++ys)∧
   Upd (fun k=>v.ownBlock=some k) w w'∧(∀k,v'.ownBlock=some k→v.ownBlock=some k∨w.heap.size≤k):=by
 obtain ⟨i0,zz,hi,hz0,hz1,hz2,hz3⟩:=hr.info
 rcases id hs.2 with ⟨rfl,rfl⟩|⟨g,cap,cur,rfl,hg,q1,q2,q3,q4⟩
 ·have hy:ys=[]:=List.eq_nil_of_length_eq_zero (by have:=hs.1;simpa using this)
  refine ⟨v,w,?_,by rw [hy,List.append_nil];exact h,Upd.refl _ _,fun k hk=>.inl hk⟩
  rcases h.2 with ⟨rfl,rfl⟩|⟨g,cap,cur,rfl,_,hnc,_⟩
  ·simp [Builtin.append_,run_underlying hr.und,sizeOf,typeInfo,hi,Builtin.lenOf,Builtin.firstCells]
  ·simp [Builtin.append_,run_underlying hr.und,sizeOf,typeInfo,hi,Builtin.lenOf,Builtin.firstCells,hnc,storeCells]
 ·obtain ⟨v',w',hrun,hown,hu,hat,-⟩:=hr.more h ⟨g,0,none⟩ m cap ys hs.1 (hs.cells rfl) h1 (by omega) ty
  exact ⟨v',w',hrun,hown,hu,hat⟩
end
def rep (n:Nat) (M:List Value):List Value:=(List.replicate n M).flatten
theorem rep_length (n:Nat) (M:List Value):(rep n M).length=n*M.length:=by simp [rep]
theorem rep_succ (n:Nat) (M:List Value):rep (n+1) M=rep n M++M:=by simp [rep,List.replicate_succ']
theorem rep_at {n i j:Nat} {M:List Value} (hi:i<n) (hj:j<M.length):(rep n M)[i*M.length+j]? = some M[j]:=by
 induction n with
 | zero=>omega
 | succ n ih=>
  rw [rep_succ]
  by_cases h:i<n
  ·have h2:i*M.length+j<(rep n M).length:=by
    rw [rep_length]
    have:(i+1)*M.length≤n*M.length:=Nat.mul_le_mul_right _ h
    rw [Nat.add_mul] at this
    omega
   rw [List.getElem?_append_left h2]
   exact ih h
  ·obtain rfl:i=n:=by omega
   rw [List.getElem?_append_right (by rw [rep_length];omega),rep_length,Nat.add_sub_cancel_left,List.getElem?_eq_getElem hj]
def FullG (w:World) (v:Value) (M:List Value):Prop:=
 ∃ao n c,v=.slice ao n c∧n≤c∧c≤9223372036854775807∧∀i,i<n→∃g o,ao=some ⟨g,o,none⟩∧g<w.heap.size∧∀j (hj:j<M.length),w.cell? ⟨g,o+(i*M.length+j),none⟩=some M[j]
theorem FullG.upd {S:Nat→Prop} {w w':World} {v:Value} {M:List Value} (h:FullG w v M) (hu:Upd S w w') (hn:∀k,v.ownBlock=some k→¬S k):FullG w' v M:=by
 obtain ⟨ao,n,c,rfl,h1,h2,h3⟩:=h
 refine ⟨ao,n,c,rfl,h1,h2,fun i hi=>?_⟩
 obtain ⟨g,o,rfl,hg,hc⟩:=h3 i hi
 exact ⟨g,o,rfl,Nat.lt_of_lt_of_le hg hu.size,fun j hj=>(World.cell?_of_block (a:=⟨g,o+(i*M.length+j),none⟩) (hu.block g hg (hn g rfl))).trans (hc j hj)⟩
theorem FullG.of_owns {w:World} {n:Nat} {E:TypeId} {v:Value} {M:List Value} (h:SRow w E M.length v n (rep n M)) (hM:0<M.length):FullG w v M:=by
 obtain ⟨ao,c,rfl,h1,h2,h3⟩:=h.slice
 refine ⟨ao,n,c,rfl,h1,h2,fun i hi=>?_⟩
 obtain ⟨g,c',e,hg,-⟩:=h.cell (rep_at hi hM)
 injection e with e1 _ _
 subst e1
 refine ⟨g,0,rfl,hg,fun j hj=>?_⟩
 obtain ⟨g',c',e,-,hc⟩:=h.cell (rep_at hi hj)
 injection e with e1 _ _
 injection e1 with e1
 injection e1 with e1
 subst e1
 rw [Nat.zero_add]
 exact hc
theorem RowTy.grow {T E:TypeId} {z b:Nat} (hr:RowTy T E z b) {w:World} {ao:Option Addr} {n c L:Nat} {gv:Value} {M:List Value} (hM:M.length=z) (h1:∀u∈M,u.oneCell'=true) (hd:SRow w E z gv L (rep L M)) (hf:FullG w (.slice ao n c) M)
  (hz:∀a,ao=some a→a.off=0∧a.spot=none) (hn:n≤L) (hL:L≤3000000000) (ty:TypeId) :
  ∃gv' w',(Builtin.append_ #[T,T] ty #[gv,.slice (some ⟨w.heap.size,0,none⟩) 1 1]).run Tryz.prog (w.alloc (.cells M.toArray E))=.ok gv' w'∧SRow w' E z gv' (L+1) (rep (L+1) M)∧FullG w' (.slice ao n c) M∧
   Upd (fun k=>gv.ownBlock=some k) w w'∧∀k,gv'.ownBlock=some k→gv.ownBlock=some k∨w.heap.size≤k:=by
 obtain ⟨gv',w',hrun,hown,hu,hat,hor⟩:=hr.push hd hM h1 hL ty
 rw [←rep_succ] at hown
 refine ⟨gv',w',hrun,hown,?_,hu,hat⟩
 have hpos:=hr.pos
 subst hM
 have hfg:=FullG.of_owns hown hpos
 by_cases hsame:(Value.slice ao n c).ownBlock=gv.ownBlock
 ·by_cases hg:gv'.ownBlock=gv.ownBlock
  ·cases ao with
   | none=>exact hf.upd hu (fun k hk=>by cases hk)
   | some a=>
    obtain ⟨z1,z2⟩:=hz a rfl
    obtain ⟨g,o,s⟩:=a
    simp only at z1 z2
    subst z1 z2
    obtain ⟨ao',n',c',e1,e2,e3,e4⟩:=hf
    injection e1 with i1 i2 i3
    subst i1 i2 i3
    have hgg:gv'.ownBlock=some g:=by rw [hg,←hsame];rfl
    obtain ⟨ga,ca,rfl,f1,f2,f3⟩:=hown.slice
    obtain ⟨ga',na,ca',e5,-,-,f4⟩:=hfg
    injection e5 with j1 j2 j3
    subst j1 j2 j3
    refine ⟨_,n,c,rfl,e2,e3,fun i hi=>?_⟩
    obtain ⟨gg,oo,q1,q2,q3⟩:=f4 i (by omega)
    subst q1
    obtain ⟨r1,-⟩:=f3 _ rfl
    simp only at r1
    subst r1
    have:gg=g:=by simpa [Value.ownBlock] using hgg
    subst this
    exact ⟨gg,0,rfl,q2,q3⟩
  ·exact hf.upd (hor.resolve_left hg) (fun _ _ h=>h)
 ·exact hf.upd hu (fun k hk e=>hsame (by rw [hk,e]))
structure Fl (C:Nat) (a:DiskA) (F:List FileA):Prop where
 files:a.files=F
 down:a.down=false
 cap:a.cap=C
 arm:a.armed=0
def usedL (F:List FileA):Nat:=(F.map (·.data.length)).sum
section
variable {C:Nat} {a:DiskA} {F:List FileA} {n:ByteArray}
theorem Fl.used (h:Fl C a F):usedP a=usedL F:=by unfold usedP usedL;rw [h.files]
theorem Fl.act (h:Fl C a F) (co:Option Nat) (F':List FileA):(actA a co F').1=0∧Fl C (actA a co F').2 F':=by
 unfold actA
 rw [if_pos h.arm]
 exact ⟨rfl,rfl,h.down,h.cap,h.arm⟩
theorem Fl.create (h:Fl C a F) (ho:nameOk n.data.toList=true) (hf:findP F n=none) (hl:F.length<256):(createP a n).1=0∧Fl C (createP a n).2 (F ++ [⟨n,[],0⟩]):=by
 have e:createP a n=actA a none (F ++ [⟨n,[],0⟩]):=by
  unfold createP
  rw [lookP_up h.down ho,if_neg (by simp),h.files,hf,if_neg (by simp),if_neg (by omega)]
 rw [e]
 exact h.act _ _
theorem Fl.delete (h:Fl C a F) (ho:nameOk n.data.toList=true) {f:FileA} (hf:findP F n=some f):(deleteP a n).1=0∧Fl C (deleteP a n).2 (dropA F n):=by
 have e:deleteP a n=actA a (some 9) (dropA F n):=by
  unfold deleteP
  rw [lookP_up h.down ho,h.files,hf,if_neg (by simp)]
 rw [e]
 exact h.act _ _
end
section
variable {C:Nat} {a:DiskA} {F:List FileA} {pre:ByteArray} {m:Option VerA} {x:VerA}
structure PreOk (pre:ByteArray):Prop where
 t:nameOk (pre++tempB).data.toList=true
 n:nameOk (pre++nameB).data.toList=true
 size:pre.size≤32
theorem PreOk.ne (h:PreOk pre):pre++tempB≠pre++nameB:=by
 intro e
 have h1:=congrArg ByteArray.size e
 rw [ByteArray.size_append,ByteArray.size_append] at h1
 have h2:tempB.size=12:=rfl
 have h3:nameB.size=8:=rfl
 omega
theorem Fl.load (h:Fl C a F) (hp:PreOk pre) (hm:(findP F (pre++nameB)).map (·.data)=m.map encodeB) (ho:GoodM m):(loadP a pre).1=(m,0)∧Fl C (loadP a pre).2 F:=by
 obtain ⟨h1,h2,h3,h4,h5⟩:=loadP_of h.down hp.t hp.n hp.size (by rw [h.files];exact hm) ho
 exact ⟨h1,h2.trans h.files,h3,h4.trans h.cap,h5.trans h.arm⟩
theorem Fl.swap (h:Fl C a F) (hp:PreOk pre) (hm:(findP F (pre++nameB)).map (·.data)=m.map encodeB) (ho:GoodM m) (hx:okA x=true) (hg:x.gen=(m.map (·.gen)).getD 0+1) (hno:∀f∈F,f.name≠pre++tempB) (hl:F.length<256) :
  ((encodeB x).length≤C-usedL F→(swapP a pre x).1=0∧Fl C (swapP a pre x).2 (dropA F (pre++nameB) ++ [⟨pre++nameB,encodeB x,(encodeB x).length⟩]))∧
  (C-usedL F<(encodeB x).length→(swapP a pre x).1=4∧Fl C (swapP a pre x).2 F):=by
 have hs:=swapP_of h.down hp.t hp.n hp.size (by rw [h.files];exact hm) ho hx hg
 obtain ⟨-,hfl⟩:=h.load hp hm ho
 have hen:=encA_len hx
 have hd:dropA (loadP a pre).2.files (pre++tempB)=F:=by rw [hfl.files];exact dropA_same hno
 have hu:usedP { (loadP a pre).2 with files:=F } = usedL F:=rfl
 rw [hs]
 refine ⟨fun hr=>?_,fun hr=>?_⟩
 ·have hst:=stroke_of (pre:=pre) (b:=encodeB x) (a:=(loadP a pre).2) hfl.down (by rw [hfl.arm];decide) hp.t hp.n hp.ne (by rw [hd];exact hl) (by omega) (by rw [hd,hu,hfl.cap];exact hr)
  rcases hst with ⟨g1,g2,g3,g4,-,g6⟩|⟨g0,-⟩
  ·rw [hd] at g2
   exact ⟨g1,g2,g3,g4.trans hfl.cap,g6 hfl.arm⟩
  ·exact absurd hfl.arm g0
 ·obtain ⟨g1,g2,g3,g4,g5⟩:=stroke_full (pre:=pre) (b:=encodeB x) (a:=(loadP a pre).2) hfl.down hfl.arm hp.t (by rw [hd];exact hl) (by omega) (by rw [hd,hu,hfl.cap];exact hr)
  rw [hd] at g2
  exact ⟨g1,g2,g3,g4.trans hfl.cap,g5⟩
end
theorem Fl.new (C:Nat):Fl C (newA C) []:=⟨rfl,rfl,rfl,rfl⟩
theorem run_string_ofD {w:World} {v:Value} {bs:List UInt8} (h:BytesAt w v bs):(convert 22 9 v).run Tryz.prog w=.ok (.string (toBA bs)) w:=by
 obtain ⟨ao,cap,rfl,hn,hs⟩:=h
 cases ao with
 | none=>
  obtain ⟨rfl,rfl⟩:=hn rfl
  exact run_convert_bytes_nil w 22 5 Tryz.underlying22 Tryz.underlying5 _ _ 9 Tryz.underlying9
 | some a=>
  exact run_convert_bytes_back w 22 9 5 a cap bs Tryz.underlying22 Tryz.underlying5 Tryz.underlying9 (fun j hj=>hs a rfl j _ (by rw [List.getElem?_map,List.getElem?_eq_getElem hj];rfl))
theorem beq_toBAd (a b:List UInt8):((toBA a).toList==(toBA b).toList)=decide (a=b):=by
 rw [beq_toList]
 congr 1
 apply propext
 constructor
 ·intro h
  have:=congrArg (fun x:ByteArray=>x.data.toList) h
  simpa [toBA] using this
 ·rintro rfl;rfl
theorem fileList_nodup {w:World} {s:DS} (hs:s.In w):((fileList s).map (·.name)).Nodup:=by
 rw [fileList_names hs];exact sort_nodup hs.names
theorem fileList_small {w:World} {s:DS} (hs:s.In w):∀f∈fileList s,f.synced≤f.data.length∧f.data.length≤67108864:=by
 intro f hf
 obtain ⟨n,-,hn⟩:=List.mem_filterMap.1 hf
 cases hr:s.fileAt n with
 | none=>rw [hr] at hn;cases hn
 | some r=>
  rw [hr] at hn
  cases hn
  obtain ⟨hm,-⟩:=fileAt_mem hr
  exact ⟨(hs.files r hm).synced,hs.data_le hm⟩
theorem used_abs (s:DS):s.used=(s.abs.files.map (·.data.length)).sum:=by simp [DS.used,usedOf,DS.abs,List.map_map,Function.comp_def,FRec.abs]
theorem fileList_le {w:World} {s:DS} (hs:s.In w):(fileList s).length≤256:=by
 have h:=congrArg List.length (fileList_names hs)
 have h2:=(sortNames_perm s.names).length_eq
 have h3:s.names.length=s.recs.length:=by simp [DS.names]
 have:=hs.count
 simp at h
 omega
theorem files_small {w:World} {s:DS} (hs:s.In w) {l:List FV} (h:l.map FV.abs=fileList s):(∀f∈l,f.data.length≤67108864)∧l.length≤256:=by
 refine ⟨fun f hf=>(fileList_small hs f.abs (by rw [←h];exact List.mem_map_of_mem hf)).2,?_⟩
 have:=congrArg List.length h
 have h2:=fileList_le hs
 simp at this
 omega
structure FileI where
 name:ByteArray
 dv:Value
 data:List UInt8
 synced:Int
def FileI.abs (f:FileI):FileA:=⟨f.name,f.data,f.synced.toNat⟩
structure FilesIn (w:World) (v:Value) (l:List FileI):Prop where
 shape:∃ao cap,v=.slice ao l.length cap∧l.length≤cap∧cap≤9223372036854775807∧∀k (hk:k<l.length),∃b o,ao=some ⟨b,o,none⟩∧b<w.heap.size∧
  w.cell? ⟨b,o+k*3,none⟩=some (.string l[k].name)∧w.cell? ⟨b,o+k*3+1,none⟩=some l[k].dv∧w.cell? ⟨b,o+k*3+2,none⟩=some (.int .i64 l[k].synced)
 bytes:∀f∈l,BytesAt w f.dv f.data
 low:∀f∈l,∀a n c,f.dv=.slice (some a) n c→0<n→a.block<w.heap.size
def usedA (l:List FileA):Nat:=(l.map (·.data.length)).sum
def loadL (cap:Nat):List FileI→List FileA→Int ⊕ List FileA
 | [],acc=>.inr acc
 | f :: t,acc=>
  if nameOk f.name.data.toList=false then .inl 40
  else if (findA acc f.name).isSome then .inl 41
  else if f.synced<0∨(f.data.length:Int)<f.synced then .inl 43
  else if cap-usedA acc<f.data.length then .inl 4
  else loadL cap t (acc ++ [f.abs])
def loadA (cap:Int) (l:List FileI):Int ⊕ List FileA:=
 if cap<0∨67108864<cap then .inl 1 else if 256<l.length then .inl 44 else loadL cap.toNat l []
theorem loadL_snoc {cap:Nat} {l:List FileI} {k:Nat} {acc:List FileA} (hk:k<l.length) (h1:nameOk l[k].name.data.toList=true) (h2:(findA acc l[k].name).isSome=false)
  (h3:¬(l[k].synced<0∨(l[k].data.length:Int)<l[k].synced)) (h4:¬cap-usedA acc<l[k].data.length):loadL cap (l.drop k) acc=loadL cap (l.drop (k+1)) (acc ++ [l[k].abs]):=by
 rw [List.drop_eq_getElem_cons hk]
 simp only [loadL,h1,h2,if_neg h3,if_neg h4]
 simp
theorem loadL_ok {cap:Nat} : ∀(l:List FileI) (acc:List FileA),(∀f∈l,nameOk f.name.data.toList=true∧0≤f.synced∧f.synced≤(f.data.length:Int))→((acc++l.map FileI.abs).map (·.name)).Nodup→
  usedA acc+usedA (l.map FileI.abs)≤cap→loadL cap l acc=.inr (acc++l.map FileI.abs)
 | [],acc,_,_,_=>by simp [loadL]
 | f :: t,acc,h1,h2,h3=>by
  obtain ⟨g1,g2,g3⟩:=h1 f (by simp)
  have hu:usedA ((f :: t).map FileI.abs)=f.data.length+usedA (t.map FileI.abs):=by simp [usedA,FileI.abs]
  have hua:usedA (acc ++ [f.abs])=usedA acc+f.data.length:=by simp [usedA,FileI.abs]
  have hno:(findA acc f.name).isSome=false:=by
   cases hc:findA acc f.name with
   | none=>rfl
   | some g=>
    obtain ⟨hm,hn⟩:=findA_mem hc
    rw [List.map_append,List.nodup_append] at h2
    exact absurd hn (h2.2.2 g.name (List.mem_map_of_mem hm) f.name (by simp [FileI.abs]))
  unfold loadL
  rw [if_neg (by rw [g1];decide),if_neg (by rw [hno];decide),if_neg (by omega),if_neg (by omega)]
  rw [loadL_ok t (acc ++ [f.abs]) (fun x hx=>h1 x (by simp [hx])) (by simpa using h2) (by omega)]
  simp
def FV.toI (f:FV):FileI:=⟨f.name,f.dv,f.data,f.synced⟩
theorem toI_abs (f:FV):f.toI.abs=f.abs:=by simp [FV.toI,FileI.abs,FV.abs]
theorem FilesAt.toIn {w:World} {base:Nat} {v:Value} {l:List FV} (h:FilesAt w base v l):FilesIn w v (l.map FV.toI):=by
 obtain ⟨ao,cap,hv,h1,h2,h3⟩:=h.shape
 refine ⟨⟨ao,cap,by simpa using hv,by simpa using h1,by simpa [maxLen] using Nat.le_trans h2 (by decide:maxLen≤9223372036854775807),fun k hk=>?_⟩,fun f hf=>?_,fun f hf a m c e _=>?_⟩
 ·have hk':k<l.length:=by simpa using hk
  obtain ⟨g,h4,-,h5,h6,h7,h8⟩:=h3 k hk'
  refine ⟨g,0,h4,h5,?_,?_,?_⟩
  ·simpa [FV.toI] using h6
  ·simpa [FV.toI] using h7
  ·simpa [FV.toI] using h8
 ·obtain ⟨x,hx,rfl⟩:=List.mem_map.1 hf
  exact (h.data x hx).bytes
 ·obtain ⟨x,hx,rfl⟩:=List.mem_map.1 hf
  have e':x.dv=.slice (some a) m c:=e
  exact (h.data x hx).lt a.block (by rw [e'];rfl)
theorem load_told {w:World} {s:DS} (hs:s.In w) {l:List FV} (h:l.map FV.abs=fileList s):loadA s.cap (l.map FV.toI)=.inr (fileList s):=by
 have habs:(l.map FV.toI).map FileI.abs=fileList s:=by
  rw [←h,List.map_map]
  exact List.map_congr_left (fun f _=>toI_abs f)
 have hlen:=fileList_le hs
 have hl:l.length=(fileList s).length:=by rw [←h];simp
 have hcap:=hs.cap
 have hroom:=hs.room
 have hmem:∀f∈l,f.abs∈s.abs.files:=fun f hf=>(fileList_files_perm hs).mem_iff.1 (by rw [←h];exact List.mem_map_of_mem hf)
 unfold loadA
 rw [if_neg (by omega),if_neg (by simp;omega)]
 have hnat:((s.cap:Int)).toNat=s.cap:=by simp
 have hok:∀f∈l.map FV.toI,nameOk f.name.data.toList=true∧0≤f.synced∧f.synced≤(f.data.length:Int):=by
  intro f hf
  obtain ⟨x,hx,rfl⟩:=List.mem_map.1 hf
  have hm:=hmem x hx
  obtain ⟨r,hr,hra⟩:=List.mem_map.1 hm
  have hin:=hs.files r hr
  have e1:x.name=r.name:=(congrArg FileA.name hra).symm
  have e2:x.data=r.data:=(congrArg FileA.data hra).symm
  have e3:x.synced=r.synced:=(congrArg FileA.synced hra).symm
  simp only [FV.toI]
  rw [e1,e2,e3]
  have:=hin.synced
  exact ⟨hin.name,by omega,by omega⟩
 have hus:usedA []+usedA ((l.map FV.toI).map FileI.abs)≤s.cap:=by
  rw [habs]
  have e1:usedA (fileList s)=s.used:=by rw [used_abs];exact sum_perm (fileList_files_perm hs)
  have e2:usedA []=0:=rfl
  omega
 rw [hnat,loadL_ok _ [] hok (by rw [List.nil_append,habs];exact fileList_nodup hs) hus,List.nil_append,habs]
section
variable {w:World} {r:RS}
end
theorem refNew_no (w:World) (n:Int) (hn:n<0∨67108864<n) :
  Calls Tryz.prog 111 #[.int .i64 n] w fun e w'=>e=.returned (.tuple #[.pointer none,.int .i64 1])∧w'=w:=by
 rcases hn with h|h
 ·go_enter Tryz.func111,Tryz.ntmps111
  go_wp2
  go_ret2
  exact ⟨rfl,rfl⟩
 ·have h':¬n<0:=by omega
  go_enter Tryz.func111,Tryz.ntmps111
  go_wp2
  go_ret2
  exact ⟨rfl,rfl⟩
structure OnR (w wr:World) (p:Nat) (r:RS):Prop where
 ins:r.In wr
 p:r.p=p
 low:∀k,r.own k→w.heap.size≤k
 base:w.heap.size≤r.base
 upd:Upd (fun _=>False) w wr
def RefLoadRes (w:World) (cap:Int) (R:Int ⊕ List FileA) (e:Ending) (w':World):Prop:=
 Upd (fun _=>False) w w'∧match R with
  | .inl err=>e=.returned (.tuple #[.pointer none,.int .i64 err])
  | .inr F=>∃r:RS,e=.returned (.tuple #[.pointer (some ⟨r.p,0,none⟩),.int .i64 0])∧r.In w'∧Alike ⟨cap.toNat,F,false,0,⟨0,0,0,0,0,0⟩⟩ r.abs∧Sorted r.F∧∀k,r.own k→w.heap.size≤k
theorem refLoad_any {w : World} {cap : Int} {v : Value} {l : List FileI} (hl : FilesIn w v l) (hsm : ∀ f ∈ l, f.data.length ≤ 1000000000) :
    Calls Tryz.prog 100 #[.int .i64 cap,v] w fun e w'=>RefLoadRes w cap (loadA cap l) e w':=by
  obtain ⟨ao,lcap,rfl,hl1,hl2,hcells⟩:=hl.shape
  have HL:=hid hl;have Kv:=hid hcells;have Kw:=hid hsm
  clear hl hcells hsm
  by_cases hcap:cap<0∨67108864<cap
  · have HR:=hid (show loadA cap l=.inl 1 by unfold loadA;rw [if_pos hcap])
    have HN:=hid (refNew_no w cap hcap)
    clear hcap
    go_enter Tryz.func100,Tryz.ntmps100
    go_wp2_with (go_at_call 111;refine HN.out.mono ?_;rintro e w' ⟨rfl,hww⟩;obtain rfl:=hww.symm)
    go_ret2
    rw [HR.out]
    exact ⟨Upd.refl _ _,rfl⟩
  obtain ⟨n,rfl⟩:∃n:Nat,cap=(n:Int):=⟨cap.toNat,by omega⟩
  have hn:n≤67108864:=by omega
  have HR:=hid (show loadA n l=if 256<l.length then .inl 44 else loadL n l [] by unfold loadA;rw [if_neg hcap];simp)
  clear hcap
  go_enter Tryz.func100,Tryz.ntmps100
  go_wp2_with fail
  refine (refNew_yes w n hn).mono ?_
  rintro e w1 ⟨r0,rfl,hin,q1,q2,q3,q4,q5,hbase,hlow,hupd⟩
  obtain ⟨p,hp⟩:∃p,p=r0.p:=⟨_,rfl⟩
  have ON0:=hid (show OnR w w1 p r0 from ⟨hin,hp.symm,hlow,hbase,hupd⟩)
  have Q1:=hid q1;have Q2:=hid q2;have Q3:=hid q3;have Q4:=hid q4;have Q5:=hid q5
  rw [←hp]
  clear hin hlow hbase hupd hp q1 q2 q3 q4 q5
  by_cases h256:256<l.length
  · have h256':(256:Int)<(l.length:Int):=by omega
    have Kc:=hid (show loadA n l=.inl 44 by rw [HR.out,if_pos h256])
    go_wp2
    go_ret2
    rw [Kc.out]
    exact ⟨ON0.out.upd,rfl⟩
  have h256':¬(256:Int)<(l.length:Int):=by omega
  have Kc:=hid (show loadA n l=loadL n l [] by rw [HR.out,if_neg h256])
  clear HR
  go_wp2
  go_loopw [8] (fun i wr=>∃k:Nat,k≤l.length∧i=.int .i64 k∧∃(r:RS) (acc:List FileA),OnR w wr p r∧r.room=n∧r.off=false∧r.armed=0∧r.cnt=⟨0,0,0,0,0,0⟩∧acc.Perm (r.F.map FV.abs)∧Sorted r.F∧r.F.length=k∧loadL n l []=loadL n (l.drop k) acc) (fun i _=>l.length-(intOf i).toNat)
  case atStart=>exact ⟨0,Nat.zero_le _,rfl,r0,[],ON0.out,Q1.out,Q3.out,Q4.out,Q5.out,by rw [Q2.out];exact .refl _,by rw [Q2.out];simp [Sorted],by rw [Q2.out];rfl,rfl⟩
  case round=>
    obtain ⟨k,hk,rfl,r,acc,hon,a1,a2,a3,a4,a5,a6,hlen,hld⟩:=hrel
    have ON:=hid hon;have A1:=hid a1;have A2:=hid a2;have A3:=hid a3;have A4:=hid a4;have A5:=hid a5;have A6:=hid a6;have Kl:=hid hlen;have Km:=hid hld
    clear hon a1 a2 a3 a4 a5 a6 hlen hld
    by_cases hlt:k<l.length
    · obtain ⟨b,o,rfl,hb,c0,c1,c2⟩:=Kv.out k hlt
      have hm:l[k]∈l:=List.getElem_mem hlt
      have hbl:l[k].data.length≤1000000000:=Kw.out _ hm
      have hby:=(HL.out.bytes l[k] hm).upd ON.out.upd (fun a m c e h0=>⟨fun h=>h,HL.out.low l[k] hm a m c e h0⟩)
      have hlw:∀a m c,l[k].dv=.slice (some a) m c→0<m→a.block<wr.heap.size:=fun a m c e h0=>Nat.lt_of_lt_of_le (HL.out.low l[k] hm a m c e h0) ON.out.upd.size
      have d0:=(World.cell?_of_block (a:=⟨b,o+k*3,none⟩) (ON.out.upd.block b hb (fun h=>h))).trans c0
      have d1:=(World.cell?_of_block (a:=⟨b,o+k*3+1,none⟩) (ON.out.upd.block b hb (fun h=>h))).trans c1
      have d2:=(World.cell?_of_block (a:=⟨b,o+k*3+2,none⟩) (ON.out.upd.block b hb (fun h=>h))).trans c2
      have hbr:b<wr.heap.size:=Nat.lt_of_lt_of_le hb ON.out.upd.size
      have Ka:=hid (show loadL n l []=loadL n (l[k] :: l.drop (k+1)) acc by rw [Km.out,List.drop_eq_getElem_cons hlt])
      have Ko:=hid (fun h1 h2 h3 h4=>Km.out.trans (loadL_snoc (cap:=n) (acc:=acc) hlt h1 h2 h3 h4))
      obtain ⟨f,hf⟩:∃f,f=l[k]:=⟨_,rfl⟩
      rw [←hf] at d0 d1 d2 hby hlw Ka Ko hbl
      have Kp:=hid hby
      obtain ⟨po,pc,hdv,-,-⟩:=hby
      rw [hdv] at d1 hlw
      have Kx:=hid (show BytesAt wr (.slice po f.data.length pc) f.data from hdv ▸ Kp.out)
      have Ky:=hid hlw
      have hplt:=ON.out.ins.plt
      rw [ON.out.p] at hplt
      have hp1:p<wr.heap.size+1:=by omega
      have HN:=hid (fun W=>refName_any f.name W)
      have hndacc:(acc.map (·.name)).Nodup:=(A5.out.map (·.name)).nodup_iff.2 (sorted_nodup A6.out)
      have hfind:findA acc f.name=findA (r.F.map FV.abs) f.name:=findA_perm A5.out hndacc f.name
      have husd:usedA acc=usedR r.F:=(sum_perm A5.out).trans (usedR_abs r.F)
      have hroomr:=ON.out.ins.room
      rw [A1.out] at hroomr
      have Kf:=hid hfind;have Kg:=hid husd
      have Kd:=hid ((Upd.refl (fun _=>False) wr).alloc (.cells #[.string f.name,.slice po f.data.length pc,.int .i64 f.synced] 185))
      have hin1:r.In (wr.alloc (.cells #[.string f.name,.slice po f.data.length pc,.int .i64 f.synced] 185)):=ON.out.ins.upd Kd.out (fun _ _ h=>h)
      have hat:=refAt_any hin1 f.name
      rw [ON.out.p] at hat
      have husc:∀q,Calls Tryz.prog 152 #[.pointer (some ⟨p,0,none⟩)] ((wr.alloc (.cells #[.string f.name,.slice po f.data.length pc,.int .i64 f.synced] 185)).drewN q) fun e w'=>e=.returned (.int .i64 (usedR r.F))∧w'=(wr.alloc (.cells #[.string f.name,.slice po f.data.length pc,.int .i64 f.synced] 185)).drewN q:=fun q=>by
        have h:=refUsed_any (hin1.drewN q)
        rw [ON.out.p] at h
        exact h
      have Kj:=hid husc;have Kq:=hid hin1
      clear c0 c1 c2 hm hlw hf hdv hndacc hfind husd husc hin1
      cases hok:nameOk f.name.data.toList with
      | false=>
        rw [hok] at HN
        have Kb:=hid (show loadL n l []=.inl 40 by rw [Ka.out];simp [loadL,hok])
        clear hok hat
        go_wp2_with (go_at_call 150;refine (HN.out _).mono ?_;rintro e w' ⟨rfl,hww⟩;obtain rfl:=hww.symm)
        go_ret2
        refine ⟨ON.out.upd.trans Kd.out (fun _ _ h=>h),?_⟩
        rw [Kc.out,Kb.out]
        rfl
      | true=>
      rw [hok] at HN
      have Kh:=hid hok
      clear hok
      rcases atR_cases r.F f.name with ⟨g1,g2,g3⟩|⟨kk,hkk,g1,g3,g2⟩
      · rw [g1] at hat
        have Ke:=hid hat
        have Kk:=hid (show (findA acc f.name).isSome=false by rw [Kf.out,g2];rfl)
        have Kz:=hid g3
        clear hat g1 g2 g3
        by_cases hneg:f.synced<0
        · have Kb:=hid (show loadL n l []=.inl 43 by rw [Ka.out];simp [loadL,Kh.out,Kk.out,hneg])
          go_wp2_with (first|(go_at_call 150;refine (HN.out _).mono ?_;rintro e w' ⟨rfl,hww⟩;obtain rfl:=hww.symm)|(go_at_call 151;refine Ke.out.mono ?_;rintro e w' ⟨rfl,hww⟩;obtain rfl:=hww.symm))
          go_ret2
          refine ⟨ON.out.upd.trans Kd.out (fun _ _ h=>h),?_⟩
          rw [Kc.out,Kb.out]
          rfl
        by_cases hbig:(f.data.length:Int)<f.synced
        · have Kb:=hid (show loadL n l []=.inl 43 by rw [Ka.out];simp [loadL,Kh.out,Kk.out,hbig])
          go_wp2_with (first|(go_at_call 150;refine (HN.out _).mono ?_;rintro e w' ⟨rfl,hww⟩;obtain rfl:=hww.symm)|(go_at_call 151;refine Ke.out.mono ?_;rintro e w' ⟨rfl,hww⟩;obtain rfl:=hww.symm))
          go_ret2
          refine ⟨ON.out.upd.trans Kd.out (fun _ _ h=>h),?_⟩
          rw [Kc.out,Kb.out]
          rfl
        obtain ⟨U,hU⟩:∃U,U=usedR r.F:=⟨_,rfl⟩
        rw [←hU] at hroomr Kj Kg
        have HU:=hid hU
        clear hU
        by_cases hfull:(n:Int)<(U:Int)+(f.data.length:Int)
        · have Kb:=hid (show loadL n l []=.inl 4 by rw [Ka.out];simp only [loadL];rw [if_neg (by rw [Kh.out];decide),if_neg (by rw [Kk.out];decide),if_neg (by omega),if_pos (by rw [Kg.out];omega)])
          go_wp2_with (first|(go_at_call 150;refine (HN.out _).mono ?_;rintro e w' ⟨rfl,hww⟩;obtain rfl:=hww.symm)|(go_at_call 151;refine Ke.out.mono ?_;rintro e w' ⟨rfl,hww⟩;obtain rfl:=hww.symm))
          go_quiet ((go_at_call 152;exact Calls.quiet_of_same (Kj.out _)))
          go_wp2
          go_ret2
          refine ⟨ON.out.upd.trans (Kd.out.drewN _) (fun _ _ h=>h),?_⟩
          rw [Kc.out,Kb.out]
          rfl
        · obtain ⟨sy,hsy⟩:∃sy:Nat,f.synced=(sy:Int):=⟨f.synced.toNat,by omega⟩
          have hsyl:sy≤f.data.length:=by omega
          have hfl:U+f.data.length≤n:=by omega
          have Za:=hid hsy
          have hpe:=ON.out.p
          subst hpe
          rw [hsy] at d2 Ke Kj Kq Kd
          have Kr:=hid ((Ko.out Kh.out Kk.out (by omega) (by rw [Kg.out];omega)))
          clear hsy
          go_wp2_with (first|(go_at_call 150;refine (HN.out _).mono ?_;rintro e w' ⟨rfl,hww⟩;obtain rfl:=hww.symm)|(go_at_call 151;refine Ke.out.mono ?_;rintro e w' ⟨rfl,hww⟩;obtain rfl:=hww.symm))
          go_quiet ((go_at_call 152;exact Calls.quiet_of_same (Kj.out _)))
          revert nq
          intro q
          generalize hW:(wr.alloc (.cells #[.string f.name,.slice po f.data.length pc,.int .i64 (sy:Int)] 185)).drewN q=W0
          have hsz0:W0.heap.size=wr.heap.size+1:=by rw [←hW];simp
          have hu0:Upd (fun _=>False) wr W0:=by rw [←hW];exact ((Upd.refl _ _).alloc _).drewN _
          have hfb:W0.heap[wr.heap.size]? = some (.cells #[.string f.name,.slice po f.data.length pc,.int .i64 (sy:Int)] 185 (0,0)):=by rw [←hW];exact heap_alloc_new wr _
          obtain ⟨fb,hfbe⟩:∃fb,fb=wr.heap.size:=⟨_,rfl⟩
          have e0:W0.cell? ⟨fb,0,none⟩=some (.string f.name):=by rw [hfbe,cell_of_row W0 _ 0 _ _ _ hfb];rfl
          have e1:W0.cell? ⟨fb,1,none⟩=some (.slice po f.data.length pc):=by rw [hfbe,cell_of_row W0 _ 1 _ _ _ hfb];rfl
          have e2:W0.cell? ⟨fb,2,none⟩=some (.int .i64 (sy:Int)):=by rw [hfbe,cell_of_row W0 _ 2 _ _ _ hfb];rfl
          have hfbl:fb<W0.heap.size:=by omega
          have hfbo:¬r.own fb:=fun h=>by have:=ON.out.ins.lt h;omega
          have hin0:=ON.out.ins.upd hu0 (fun _ _ h=>h)
          have Ki:=hid hin0;have Ks:=hid hu0
          have Kt:=hid (show BytesAt W0.drew (.slice po f.data.length pc) f.data from Kx.out.upd (hu0.drew) (fun a m c e h0=>⟨fun h=>h,Ky.out a m c e h0⟩))
          have hput : ∀ (w4 : World) (aoc : Option Addr) (capc : Nat), Upd (fun _ => False) W0.drew w4 → DataIs w4 (.slice aoc f.data.length capc) f.data → (∀ b, (Value.slice aoc f.data.length capc).ownBlock = some b → W0.drew.heap.size ≤ b) →
              Calls Tryz.prog 153 #[.pointer (some ⟨r.p,0,none⟩),.agg #[.string f.name,.slice aoc f.data.length capc,.int .i64 (sy:Int)]] w4 fun e w5=>e=.returned (.tuple #[])∧∃fv',RStep W0 w5 r { r with fv:=fv',F:=putR r.F ⟨f.name,.slice aoc f.data.length capc,f.data,sy⟩ }:=by
            intro w4 aoc capc hbel hd hdo
            have hu4:Upd (fun _=>False) W0 w4:=((Upd.refl (fun _=>False) W0).drew).trans hbel (fun _ _ h=>h)
            have hin4:=Ki.out.upd hu4 (fun _ _ h=>h)
            refine (refPut_any hin4 ⟨f.name,.slice aoc f.data.length capc,f.data,sy⟩ hd (fun b hb=>?_) ?_ ?_ hsyl).mono ?_
            · have h1:W0.heap.size≤b:=hdo b hb
              exact ⟨Nat.le_trans Ki.out.base h1,fun ho=>by have:=Ki.out.lt ho;omega⟩
            · have:=Kl.out;omega
            · have h1:=A1.out;have h2:=HU.out;show usedR r.F+f.data.length≤r.room;omega
            · rintro e w5 ⟨rfl,fv',h5,h6,h7⟩
              refine ⟨rfl,fv',h5,rfl,(hu4.mono (T:=r.own) (fun _ _ h=>h.elim)).trans h6 (fun b _ h=>h),fun b hb=>?_⟩
              rcases h7 b hb with h|h|h
              · exact .inl h
              · exact .inr (hdo b h)
              · exact .inr (Nat.le_trans hu4.size h)
          have Ku:=hid hput
          have Kn:=hid hfbo
          rw [←hfbe]
          have Zc:=hid hfbe
          clear hW hfb hin0 hu0 d0 d1 d2 hfbe hp1 hput hfbo
          go_wp2_with fail
          go_region_held3 (fun W=>W.cell? ⟨fb,0,none⟩=some (.string f.name)∧W.cell? ⟨fb,1,none⟩=some (.slice po f.data.length pc)∧W.cell? ⟨fb,2,none⟩=some (.int .i64 (sy:Int)))
            (first
              | go_keep
              | (go_split_ands
                 refine ⟨?_, ?_, ?_⟩
                 · (first | (rw [World.cell?_of_block (w := W0) (a := ⟨fb, 0, none⟩) (hst5.upd.block fb (by simpa using hfbl) Kn.out)]; assumption) | (rw [World.cell?_of_block (w := W0.drew) (a := ⟨fb, 0, none⟩) (hbel.block fb (by simpa using hfbl) (fun h => h))]; assumption))
                 · (first | (rw [World.cell?_of_block (w := W0) (a := ⟨fb, 1, none⟩) (hst5.upd.block fb (by simpa using hfbl) Kn.out)]; assumption) | (rw [World.cell?_of_block (w := W0.drew) (a := ⟨fb, 1, none⟩) (hbel.block fb (by simpa using hfbl) (fun h => h))]; assumption))
                 · (first | (rw [World.cell?_of_block (w := W0) (a := ⟨fb, 2, none⟩) (hst5.upd.block fb (by simpa using hfbl) Kn.out)]; assumption) | (rw [World.cell?_of_block (w := W0.drew) (a := ⟨fb, 2, none⟩) (hbel.block fb (by simpa using hfbl) (fun h => h))]; assumption))))
            (first
              | (go_at_call 123;refine (refCopied_any (w:=W0.drew) Kt.out (by omega)).mono ?_;rintro e w4 ⟨vc,rfl,hd,hdo,hbel⟩;obtain ⟨aoc,capc,hsh,-,-,-,-⟩:=hd.shape;subst hsh;have hfb4:fb<w4.heap.size:=Nat.lt_of_lt_of_le (by simpa using hfbl) hbel.size)
              | (go_at_call 153;refine (Ku.out _ _ _ hbel hd hdo).mono ?_;rintro e w5 ⟨rfl,fv',hst5⟩;have hfb5:fb<w5.heap.size:=Nat.lt_of_lt_of_le hfbl hst5.upd.size)
              | fail)
          have H1:=hid hst5
          have hab:f.abs=FV.abs ⟨f.name,.slice aoc f.data.length capc,f.data,sy⟩:=by simp [FileI.abs,FV.abs,Za.out]
          have Zb:=hid hab
          clear hst5 hd hdo hbel hab e0 e1 e2
          go_wp2
          go_roundw
          case rel=>
            refine ⟨k+1,by omega,by go_num,_,acc ++ [f.abs],⟨H1.out.ins,rfl,?_,ON.out.base,?_⟩,A1.out,A2.out,A3.out,A4.out,?_,?_,?_,Kr.out⟩
            · intro b hb
              rcases H1.out.foot b hb with h|h
              · exact ON.out.low b h
              · exact Nat.le_trans ON.out.upd.size (Nat.le_trans Ks.out.size h)
            · exact (ON.out.upd.trans Ks.out (fun _ _ h=>h)).trans H1.out.upd (fun b hb ho=>by have:=ON.out.low b ho;omega)
            · refine (List.Perm.append_right _ A5.out).trans ?_
              refine .trans ?_ ((putR_perm _ _).map FV.abs).symm
              rw [List.map_cons,Zb.out]
              exact List.perm_append_singleton _ _
            · exact sorted_put A6.out Kz.out
            · show (putR r.F _).length=k+1
              rw [(putR_perm _ _).length_eq,List.length_cons,Kl.out]
          case measure=>simp [intOf];omega
      · rw [g1] at hat
        have Ke:=hid hat
        have Kb:=hid (show loadL n l []=.inl 41 by rw [Ka.out];simp [loadL,Kh.out,Kf.out,g2])
        clear hat g1 g2 g3
        go_wp2_with (first|(go_at_call 150;refine (HN.out _).mono ?_;rintro e w' ⟨rfl,hww⟩;obtain rfl:=hww.symm)|(go_at_call 151;refine Ke.out.mono ?_;rintro e w' ⟨rfl,hww⟩;obtain rfl:=hww.symm))
        go_ret2
        refine ⟨ON.out.upd.trans Kd.out (fun _ _ h=>h),?_⟩
        rw [Kc.out,Kb.out]
        rfl
    · obtain rfl:k=l.length:=by omega
      go_wp2
      go_ret2
      refine ⟨ON.out.upd,?_⟩
      rw [Kc.out,Km.out,List.drop_length]
      exact ⟨r,by rw [ON.out.p];rfl,ON.out.ins,⟨by rw [Int.toNat_natCast];exact A1.out.symm,A5.out,A2.out.symm,A3.out.symm,A4.out.symm⟩,A6.out,ON.out.low⟩
theorem Alike.trans {a b c:DiskA} (h:Alike a b) (h':Alike b c):Alike a c:=⟨h.cap.trans h'.cap,h.files.trans h'.files,h.down.trans h'.down,h.armed.trans h'.armed,h.cnt.trans h'.cnt⟩
theorem Alike.symm {a b:DiskA} (h:Alike a b):Alike b a:=⟨h.cap.symm,h.files.symm,h.down.symm,h.armed.symm,h.cnt.symm⟩
theorem Alike.act {a b:DiskA} (h:Alike a b) (co:Option Nat) {F G:List FileA} (hp:F.Perm G):(actA a co F).1=(actA b co G).1∧Alike (actA a co F).2 (actA b co G).2:=by
 unfold actA
 rw [h.armed,h.cnt]
 split
 ·exact ⟨rfl,h.cap,hp,h.down,rfl,rfl⟩
 ·split
  ·split
   ·exact ⟨rfl,h.cap,hp,rfl,rfl,rfl⟩
   ·exact ⟨rfl,h.cap,h.files,rfl,rfl,rfl⟩
  ·exact ⟨rfl,h.cap,hp,h.down,rfl,rfl⟩
end Go.Proofs.YtgaidmohdhaonaaGreatDoor
