/-
  Plain: what the reference takes for the name of a run's file is what the program does.
  strataref10.names, walked.
  strataref10.zero, walked.
-/
import Derived.Test.YtgaidmohdhaonaaGreatDoorST
import Derived.Laws.Cover1
import Derived.Test.YtgaidmohdhaonaaGreatDoorSU
import Derived.Test.YtgaidmohdhaonaaGreatDoorYP
import Derived.Test.YtgaidmohdhaonaaGreatDoorRD
import Derived.Test.YtgaidmohdhaonaaGreatDoorRE
import Derived.Test.YtgaidmohdhaonaaGreatDoorYJ
import Derived.Test.YtgaidmohdhaonaaGreatDoorRI
import Derived.Test.YtgaidmohdhaonaaGreatDoorRF
set_option linter.unusedVariables false
set_option linter.unusedSimpArgs false
set_option linter.unnecessarySimpa false
set_option linter.unusedSectionVars false
set_option maxRecDepth 100000
set_option maxHeartbeats 3200000
namespace Go.Proofs.YtgaidmohdhaonaaGreatDoor
open Go Go.RowKit
def isD (b:UInt8):Bool:=decide (48≤b.toNat)&&decide (b.toNat≤57)
def valD:List UInt8→Nat→Nat
 | [],n=>n
 | b :: t,n=>valD t (10*n+(b.toNat-48))
theorem valD_append:∀(a b:List UInt8) (n:Nat),valD (a++b) n=valD b (valD a n)
 | [],_,_=>rfl
 | x :: a,b,n=>valD_append a b _
theorem valD_mul:∀(l:List UInt8) (n:Nat),valD l n=n*10^l.length+valD l 0
 | [],n=>by simp [valD]
 | b :: t,n=>by
  have h1:=valD_mul t (10*n+(b.toNat-48))
  have h2:=valD_mul t (10*0+(b.toNat-48))
  simp only [valD,List.length_cons,Nat.pow_succ] at h1 h2⊢
  rw [h1,h2,Nat.add_mul,Nat.mul_zero,Nat.zero_add]
  have:10*n*10^t.length=n*(10^t.length*10):=by rw [Nat.mul_comm 10 n,Nat.mul_assoc,Nat.mul_comm 10]
  omega
theorem valD_ge (l:List UInt8) (n:Nat):n≤valD l n:=by
 rw [valD_mul]
 have:1≤10^l.length:=Nat.one_le_pow _ _ (by decide)
 have:=Nat.mul_le_mul_left n this
 omega
theorem valD_lt:∀(l:List UInt8),l.all isD=true→valD l 0<10^l.length
 | [],_=>by simp [valD]
 | b :: t,h=>by
  simp only [List.all_cons,Bool.and_eq_true] at h
  have h1:=valD_lt t h.2
  have h2:=h.1
  simp only [isD,Bool.and_eq_true,decide_eq_true_eq] at h2
  have h3:=valD_mul t (10*0+(b.toNat-48))
  simp only [valD,List.length_cons,Nat.pow_succ]
  rw [h3,Nat.mul_zero,Nat.zero_add]
  have h4:(b.toNat-48)*10^t.length≤9*10^t.length:=Nat.mul_le_mul_right _ (by omega)
  omega
theorem numP_val:∀(l:List UInt8) (n:Nat),l.all isD=true→valD l n≤9223372036854775807→numP l n=valD l n
 | [],n,_,_=>rfl
 | b :: t,n,h,hv=>by
  simp only [List.all_cons,Bool.and_eq_true] at h
  have h2:=h.1
  simp only [isD,Bool.and_eq_true,decide_eq_true_eq] at h2
  have hg:=valD_ge t (10*n+(b.toNat-48))
  simp only [valD] at hv⊢
  unfold numP
  rw [if_neg (by omega)]
  rw [show (10*(n:Int)+((b.toNat:Int)-48))=((10*n+(b.toNat-48):Nat):Int) from by omega]
  exact numP_val t _ h.2 hv
theorem numP_pos:∀(l:List UInt8) (n:Nat),n≤9223372036854775807→1≤numP l n→l.all isD=true∧valD l n≤9223372036854775807
 | [],n,hn,_=>⟨rfl,hn⟩
 | b :: t,n,hn,h=>by
  unfold numP at h
  by_cases hc:(b.toNat:Int)-48<0∨9<(b.toNat:Int)-48∨(9223372036854775807-((b.toNat:Int)-48)) / 10<n
  ·rw [if_pos hc] at h;omega
  ·rw [if_neg hc] at h
   rw [show (10*(n:Int)+((b.toNat:Int)-48))=((10*n+(b.toNat-48):Nat):Int) from by omega] at h
   obtain ⟨h1,h2⟩:=numP_pos t _ (by omega) h
   refine ⟨?_,h2⟩
   rw [List.all_cons,h1,Bool.and_true]
   simp only [isD,Bool.and_eq_true,decide_eq_true_eq]
   omega
theorem ofNat_dig {b:UInt8} (h:isD b=true):UInt8.ofNat (48+(b.toNat-48))=b:=by
 simp only [isD,Bool.and_eq_true,decide_eq_true_eq] at h
 rw [show 48+(b.toNat-48)=b.toNat from by omega]
 exact UInt8.ofNat_toNat
theorem dec_val:∀(k:Nat) (l:List UInt8),l.length=k→l.all isD=true→(∃b t,l=b :: t∧b≠48)→Lib.decDigits (valD l 0)=l:=by
 intro k
 induction k with
 | zero=>intro l hl _ ⟨b,t,e,_⟩;rw [e] at hl;cases hl
 | succ k ih=>
  intro l hl hd ⟨b,t,e,hb⟩
  have hne:l≠[]:=by rw [e];simp
  obtain ⟨a,z,ha⟩:∃a z,l=a ++ [z]:=⟨l.dropLast,l.getLast hne,(List.dropLast_concat_getLast hne).symm⟩
  have hdz:a.all isD=true∧isD z=true:=by rw [ha,List.all_append] at hd;simpa using hd
  have hz:=hdz.2
  simp only [isD,Bool.and_eq_true,decide_eq_true_eq] at hz
  have hv:valD l 0=10*valD a 0+(z.toNat-48):=by rw [ha,valD_append];rfl
  cases a with
  | nil=>
   rw [hv,Lib.decDigits,dif_pos (by simp [valD];omega),ha]
   simp only [valD,Nat.mul_zero,Nat.zero_add,List.nil_append]
   rw [ofNat_dig hdz.2]
  | cons c s=>
   have hcb:c=b:=by rw [ha] at e;injection e
   have hc1:1≤valD (c :: s) 0:=by
    have h1:=valD_ge s (10*0+(c.toNat-48))
    have h2:isD c=true:=by have:=hdz.1;simp only [List.all_cons,Bool.and_eq_true] at this;exact this.1
    simp only [isD,Bool.and_eq_true,decide_eq_true_eq] at h2
    have h3:c.toNat≠48:=fun e2=>hb (by rw [←hcb];exact UInt8.toNat_inj.1 e2)
    simp only [valD] at h1⊢
    omega
   have hih:=ih (c :: s) (by rw [ha,List.length_append] at hl;simpa using hl) hdz.1 ⟨c,s,rfl,hcb ▸ hb⟩
   rw [hv,Lib.decDigits,dif_neg (by omega),show (10*valD (c :: s) 0+(z.toNat-48)) / 10=valD (c :: s) 0 from by omega,hih,show (10*valD (c :: s) 0+(z.toNat-48))%10=z.toNat-48 from by omega,ofNat_dig hdz.2,ha]
theorem dec_dig (n:Nat):(Lib.decDigits n).all isD=true∧valD (Lib.decDigits n) 0=n∧∃b t,Lib.decDigits n=b :: t∧(1≤n→b≠48):=by
 induction n using Nat.strongRecOn with
 | ind n ih=>
  have hU:∀d,d<10→(UInt8.ofNat (48+d)).toNat=48+d:=fun d hd=>by simp [UInt8.toNat_ofNat'];omega
  by_cases h:n<10
  ·rw [Lib.decDigits,dif_pos h]
   refine ⟨by simp [isD,hU n h];omega,by simp only [valD];rw [hU n h];omega,_,[],rfl,fun h1 e=>?_⟩
   have h2:=congrArg UInt8.toNat e
   rw [hU n h] at h2
   have h3:(48:UInt8).toNat=48:=rfl
   omega
  ·obtain ⟨h1,h2,b,t,h3,h4⟩:=ih (n / 10) (by omega)
   rw [Lib.decDigits,dif_neg h]
   have hm:=hU (n%10) (by omega)
   refine ⟨by rw [List.all_append,h1];simp [isD,hm];omega,?_,b,t ++ [UInt8.ofNat (48+n%10)],by rw [h3];rfl,fun _=>h4 (by omega)⟩
   rw [valD_append,h2]
   simp only [valD,hm]
   omega
theorem lex_val:∀(a b:List UInt8),a.length=b.length→a.all isD=true→b.all isD=true→(a<b↔valD a 0<valD b 0)
 | [],[],_,_,_=>by simp [valD]
 | x :: s,y :: t,hl,ha,hb=>by
  simp only [List.all_cons,Bool.and_eq_true] at ha hb
  have hl':s.length=t.length:=by simpa using hl
  have ih:=lex_val s t hl' ha.2 hb.2
  have h1:=valD_lt s ha.2
  have h2:=valD_lt t hb.2
  rw [←hl'] at h2
  have hx:=ha.1;have hy:=hb.1
  simp only [isD,Bool.and_eq_true,decide_eq_true_eq] at hx hy
  have e1:valD (x :: s) 0=(x.toNat-48)*10^s.length+valD s 0:=by simp only [valD];rw [valD_mul,Nat.mul_zero,Nat.zero_add]
  have e2:valD (y :: t) 0=(y.toNat-48)*10^s.length+valD t 0:=by simp only [valD];rw [valD_mul,Nat.mul_zero,Nat.zero_add,hl']
  rw [e1,e2,List.cons_lt_cons_iff]
  rcases Nat.lt_trichotomy x.toNat y.toNat with h|h|h
  ·have h3:(x.toNat-48+1)*10^s.length≤(y.toNat-48)*10^s.length:=Nat.mul_le_mul_right _ (by omega)
   rw [Nat.add_mul,Nat.one_mul] at h3
   exact ⟨fun _=>by omega,fun _=>.inl (UInt8.lt_iff_toNat_lt.2 h)⟩
  ·have hxy:x=y:=UInt8.toNat_inj.1 h
   subst hxy
   constructor
   ·rintro (h3|⟨-,h3⟩)
    ·exact absurd (UInt8.lt_iff_toNat_lt.1 h3) (by omega)
    ·have:=ih.1 h3;omega
   ·exact fun h3=>.inr ⟨rfl,ih.2 (by omega)⟩
  ·have h3:(y.toNat-48+1)*10^s.length≤(x.toNat-48)*10^s.length:=Nat.mul_le_mul_right _ (by omega)
   rw [Nat.add_mul,Nat.one_mul] at h3
   constructor
   ·rintro (h4|⟨h4,-⟩)
    ·exact absurd (UInt8.lt_iff_toNat_lt.1 h4) (by omega)
    ·rw [h4] at h;omega
   ·intro h4;omega
def maxD:List UInt8:=[57,50,50,51,51,55,50,48,51,54,56,53,52,55,55,53,56,48,55]
theorem maxD_val:valD maxD 0=9223372036854775807:=by decide
theorem maxD_dig:maxD.all isD=true:=by decide
def digOk (D:List UInt8):Prop:=(∃b t,D=b :: t∧b≠48)∧D.length≤19∧¬(D.length=19∧maxD<D)∧D.all isD=true
theorem digOk_iff (D:List UInt8):digOk D↔1≤numP D 0∧Lib.decDigits (numP D 0).toNat=D:=by
 constructor
 ·rintro ⟨hb,hl,hm,hd⟩
  have hv:valD D 0≤9223372036854775807:=by
   rcases Nat.lt_or_ge D.length 19 with h|h
   ·have h1:=valD_lt D hd
    have h2:10^D.length≤10^18:=Nat.pow_le_pow_right (by decide) (by omega)
    omega
   ·have h19:D.length=19:=by omega
    have h1:¬maxD<D:=fun e=>hm ⟨h19,e⟩
    rw [lex_val maxD D (by rw [h19];rfl) maxD_dig hd,maxD_val] at h1
    omega
  have h1:=numP_val D 0 hd hv
  have h2:=dec_val _ D rfl hd hb
  have h3:1≤valD D 0:=by
   obtain ⟨b,t,rfl,hb2⟩:=hb
   simp only [List.all_cons,Bool.and_eq_true] at hd
   have h4:=hd.1
   simp only [isD,Bool.and_eq_true,decide_eq_true_eq] at h4
   have h5:b.toNat≠48:=fun e=>hb2 (UInt8.toNat_inj.1 e)
   have h6:=valD_ge t (10*0+(b.toNat-48))
   simp only [valD]
   omega
  rw [show ((0:Nat):Int)=0 from rfl] at h1
  rw [h1]
  exact ⟨by omega,by rw [Int.toNat_natCast];exact h2⟩
 ·rintro ⟨h1,h2⟩
  obtain ⟨hd,hv⟩:=numP_pos D 0 (by omega) h1
  have h3:=numP_val D 0 hd hv
  rw [show ((0:Nat):Int)=0 from rfl] at h3
  rw [h3] at h1 h2
  rw [Int.toNat_natCast] at h2
  obtain ⟨-,-,b,t,h4,h5⟩:=dec_dig (valD D 0)
  rw [h2] at h4
  have hb0:b≠48:=h5 (by omega)
  have hb1:isD b=true:=by rw [h4] at hd;simp only [List.all_cons,Bool.and_eq_true] at hd;exact hd.1
  simp only [isD,Bool.and_eq_true,decide_eq_true_eq] at hb1
  have hb2:b.toNat≠48:=fun e=>hb0 (UInt8.toNat_inj.1 e)
  have hlen:D.length≤19:=by
   rcases Nat.lt_or_ge D.length 20 with h|h
   ·omega
   ·exfalso
    rw [h4] at hv h
    simp only [valD] at hv
    rw [valD_mul] at hv
    have h6:10^19≤10^t.length:=Nat.pow_le_pow_right (by decide) (by simpa using h)
    have h7:1*10^t.length≤(10*0+(b.toNat-48))*10^t.length:=Nat.mul_le_mul_right _ (by omega)
    omega
  refine ⟨⟨b,t,h4,hb0⟩,hlen,fun ⟨h19,h6⟩=>?_,hd⟩
  rw [lex_val maxD D (by rw [h19];rfl) maxD_dig hd,maxD_val] at h6
  omega
theorem pre_iff {s p:ByteArray} : Lib.hasPrefix s.data.toList p.data.toList=true↔p.data.toList <+: s.data.toList:=by
 unfold Lib.hasPrefix
 exact List.isPrefixOf_iff_prefix
theorem trim_at {f p:ByteArray} {D:List UInt8} (h:f.data.toList=p.data.toList++D):(trimP f p).data.toList=D:=by
 have h1:Lib.hasPrefix f.data.toList p.data.toList=true:=pre_iff.2 (by rw [h];exact List.prefix_append _ _)
 have hs:f.size=f.data.toList.length:=by rw [Array.length_toList];rfl
 have hp:p.size=p.data.toList.length:=by rw [Array.length_toList];rfl
 unfold trimP
 rw [if_pos h1,ByteArray.data_extract,Array.toList_extract,List.extract_eq_take_drop,h,hp,List.drop_left,hs,h,List.length_append,Nat.add_sub_cancel_left,List.take_length]
theorem isRunP_iff (pre f:ByteArray):isRunP pre f=true↔∃D,f.data.toList=(pre++runB).data.toList++D∧digOk D:=by
 unfold isRunP
 rw [Bool.and_eq_true,decide_eq_true_eq,decide_eq_true_eq]
 have hr:∀n:Int,1≤n→(runName pre n).data.toList=(pre++runB).data.toList++Lib.decDigits n.toNat:=fun n hn=>by
  unfold runName
  rw [if_neg (by omega)]
  exact (congrArg Array.toList (ByteArray.data_append (l:=pre++runB) (l':=decB n.toNat))).trans Array.toList_append
 constructor
 ·rintro ⟨h1,h2⟩
  have h3:=hr _ h1
  rw [h2] at h3
  have h4:numOf pre f=numP (Lib.decDigits (numOf pre f).toNat) 0:=by
   conv=>lhs;unfold numOf
   rw [trim_at h3]
  obtain ⟨n,hn⟩:∃n,n=numOf pre f:=⟨_,rfl⟩
  rw [←hn] at h1 h3 h4
  exact ⟨_,h3,(digOk_iff _).2 ⟨by rw [←h4];exact h1,by rw [←h4]⟩⟩
 ·rintro ⟨D,h1,h2⟩
  obtain ⟨h3,h4⟩:=(digOk_iff D).1 h2
  have h5:numOf pre f=numP D 0:=by unfold numOf;rw [trim_at h1]
  rw [h5]
  refine ⟨h3,WideShapes.bytes_inj ?_⟩
  rw [hr _ h3,h4,h1]
theorem bytes_dataR (s:ByteArray):s.toList=s.data.toList:=ByteArray.toList_eq s
theorem str_eqlR (a b:ByteArray):(a.toList==b.toList)=decide (a=b):=by
 rw [bytes_dataR,bytes_dataR]
 by_cases h:a=b
 ·subst h;simp
 ·rw [decide_eq_false h,beq_eq_false_iff_ne]
  exact fun e=>h (WideShapes.bytes_inj e)
theorem gt_iff (a m:List UInt8):(!Op.bytesLess a m && !(a==m))=decide (m<a):=by
 rw [bytesLess_eq]
 by_cases h:m<a
 ·rw [decide_eq_true h,decide_eq_false (fun e=>List.lt_irrefl _ (List.lt_trans h e)),show (a==m)=false from beq_eq_false_iff_ne.2 (fun e=>by rw [e] at h;exact List.lt_irrefl _ h)]
  rfl
 ·rw [decide_eq_false h]
  by_cases h2:a<m
  ·rw [decide_eq_true h2];rfl
  ·have e:a=m:=List.le_antisymm (List.not_lt.1 h) (List.not_lt.1 h2)
   rw [e,beq_self_eq_true]
   simp
theorem refNames_any (pre f:ByteArray) (hp:pre.size≤140737488355328) (hf:f.size≤140737488355328) (w:World) :
  Calls Tryz.prog 157 #[.string pre,.string f] w fun e w'=>e=.returned (.bool (isRunP pre f))∧w'=w:=by
 have hcs:¬(9223372036854775807<pre.size+4):=by omega
 go_enter Tryz.func157,Tryz.ntmps157
 go_upto_region 2 with fail
 obtain ⟨hd,hhd⟩:∃h,h=pre++runB:=⟨_,rfl⟩
 have hhs:hd.size=pre.size+4:=by
  have h9:runB.size=4:=rfl
  rw [hhd,ByteArray.size_append,h9]
 rw [show pre++({ data:=#[82,85,78,45] } : ByteArray)=hd from by rw [hhd]]
 have Kb:=hid hhd;have Kg:=hid hhs
 have hdl:(hd.size:Int)≤9223372036854775807:=by omega
 clear hhd hcs hhs
 by_cases h1:f.size≤hd.size
 ·have h1':(f.size:Int)≤(hd.size:Int):=by omega
  have HF:=hid (show isRunP pre f=false from by
   rw [←Bool.not_eq_true,isRunP_iff]
   rintro ⟨D,e,⟨b,t,e2,-⟩,-⟩
   rw [←Kb.out] at e
   have:=congrArg List.length e
   rw [List.length_append,e2,Array.length_toList,Array.length_toList] at this
   have h3:f.data.size=f.size:=rfl
   have h4:hd.data.size=hd.size:=rfl
   simp only [List.length_cons] at this
   omega)
  go_wp2
  go_ret
  exact ⟨by rw [HF.out];rfl,rfl⟩
 ·have h1':¬(f.size:Int)≤(hd.size:Int):=by omega
  have hsl:(hd.size:Int)≤(f.size:Int):=by omega
  by_cases h2:f.extract 0 hd.size=hd
  ·have hne:((f.extract 0 hd.size).toList==hd.toList)=true:=by rw [str_eqlR,decide_eq_true h2]
   obtain ⟨D,hD⟩:∃D,D=f.extract hd.size f.size:=⟨_,rfl⟩
   have hs:hd.size=hd.data.toList.length:=by rw [Array.length_toList];rfl
   have hfs:f.size=f.data.toList.length:=by rw [Array.length_toList];rfl
   have hDl:D.data.toList=f.data.toList.drop hd.size:=by
    rw [hD,ByteArray.data_extract,Array.toList_extract,List.extract_eq_take_drop,List.take_of_length_le (by rw [List.length_drop,hfs];omega)]
   have hcat:f.data.toList=hd.data.toList++D.data.toList:=by
    have h3:=congrArg (fun b:ByteArray=>b.data.toList) h2
    simp only [ByteArray.data_extract,Array.toList_extract,List.extract_eq_take_drop,List.drop_zero,Nat.sub_zero] at h3
    rw [hDl]
    conv=>lhs;rw [←List.take_append_drop hd.size f.data.toList,h3]
   have hDs:D.size=f.size-hd.size:=by
    have h3:=congrArg List.length hDl
    rw [List.length_drop,←hfs,Array.length_toList] at h3
    exact h3
   have hiff:isRunP pre f=true↔digOk D.data.toList:=by
    rw [isRunP_iff]
    constructor
    ·rintro ⟨E,e,he⟩
     rw [←Kb.out,hcat] at e
     rw [List.append_cancel_left e];exact he
    ·exact fun he=>⟨_,by rw [←Kb.out];exact hcat,he⟩
   have HI:=hid hiff
   obtain ⟨r,hr⟩:∃r,r=isRunP pre f:=⟨_,rfl⟩
   rw [←hr] at HI
   have HR:=hid hr
   clear hiff hcat hDl hfs hs hr
   go_upto_region 5 with fail
   rw [←hD]
   have hd0:0<D.size:=by omega
   have hdm:D.size≤140737488355328:=by omega
   clear hD h2 hne hDs
   have Kh:=hid hdm
   have hmx:D.data.toList.length=D.size:=by rw [Array.length_toList];rfl
   have hcons:∃t,D.data.toList=D[0] :: t:=by
    refine ⟨D.data.toList.tail,?_⟩
    have h3:D.data.toList≠[]:=fun e=>by rw [e] at hmx;simp only [List.length_nil] at hmx;omega
    rw [←List.cons_head_tail h3]
    simp [List.head_eq_getElem,ByteArray.getElem_eq_getElem_data]
   have HC:=hid hcons;have Ka:=hid hmx
   clear hcons hmx
   go_cut [43] (fun bv wx=>bv=.bool (decide (D[0].toNat=48) || decide (19<D.size) || (decide (D.size=19)&&decide (maxD<D.data.toList)))∧wx=w)
   case first=>
    by_cases c0:D[0].toNat=48
    ·have c0':((D[0].toNat:Int)==48)=true:=by simp [c0]
     go_wp2
     go_meet
     exact ⟨by rw [decide_eq_true c0];rfl,rfl⟩
    ·have c0':((D[0].toNat:Int)==48)=false:=by simp;omega
     by_cases c1:19<D.size
     ·have c1':(19:Int)<(D.size:Int):=by omega
      go_wp2
      go_meet
      exact ⟨by rw [decide_eq_false c0,decide_eq_true c1];rfl,rfl⟩
     ·have c1':¬(19:Int)<(D.size:Int):=by omega
      by_cases c2:D.size=19
      ·have c2':((D.size:Int)==19)=true:=by rw [c2];rfl
       go_wp2
       go_meet
       exact ⟨by rw [decide_eq_false c0,decide_eq_false c1,decide_eq_true c2,←gt_iff,←bytes_dataR];rfl,rfl⟩
      ·have c2':((D.size:Int)==19)=false:=by simp;omega
       go_wp2
       go_meet
       exact ⟨by rw [decide_eq_false c0,decide_eq_false c1,decide_eq_false c2];rfl,rfl⟩
   case rest=>
    obtain ⟨rfl,hww⟩:=hcut
    obtain rfl:=hww.symm
    clear hww
    obtain ⟨B,hB⟩:∃B,B=(decide (D[0].toNat=48) || decide (19<D.size) || (decide (D.size=19)&&decide (maxD<D.data.toList))):=⟨_,rfl⟩
    rw [←hB]
    have HB:=hid hB
    clear hB
    cases B
    ·have hB:=HB.out.symm
     simp only [Bool.or_eq_false_iff,Bool.and_eq_false_iff,decide_eq_false_iff_not] at hB
     have Kd:=hid hB
     clear hB HB
     go_wp2
     go_loop [7] (fun iv=>∃k:Nat,k≤D.size∧iv=.int .i64 k∧(D.data.toList.take k).all isD=true) (fun iv=>D.size-(intOf iv).toNat)
     case atStart=>exact ⟨0,Nat.zero_le _,rfl,by simp⟩
     case round=>
      obtain ⟨k,hk,rfl,ha⟩:=hrel
      have HA:=hid ha
      clear ha
      by_cases hlt:k<D.size
      ·have hki:(k:Int)<(D.size:Int):=by omega
       have hst:(D.data.toList.take (k+1)).all isD=((D.data.toList.take k).all isD&&isD D[k]):=by
        have hkl:k<D.data.toList.length:=by rw [Ka.out];exact hlt
        rw [List.take_succ_eq_append_getElem hkl,List.all_append]
        simp [ByteArray.getElem_eq_getElem_data]
       have hbad:isD D[k]=false→r=false:=fun e=>by
        rw [←Bool.not_eq_true,HI.out]
        rintro ⟨-,-,-,hall⟩
        have hkl:k<D.data.toList.length:=by rw [Ka.out];exact hlt
        have h4:=List.all_eq_true.1 hall (D[k]'hlt) (by
         have h5:D.data.toList[k]=D[k]'hlt:=by simp [ByteArray.getElem_eq_getElem_data]
         rw [←h5];exact List.getElem_mem hkl)
        rw [e] at h4;cases h4
       have Ke:=hid hst;have Kc:=hid hbad
       clear hst hbad
       by_cases e0:D[k].toNat<48
       ·have e0':((D[k].toNat:Int)<48):=by omega
        have HF:=hid (Kc.out (by unfold isD;rw [decide_eq_false (by omega)];rfl))
        go_wp2
        go_ret
        exact ⟨by rw [←HR.out,HF.out];rfl,rfl⟩
       ·have e0':¬((D[k].toNat:Int)<48):=by omega
        by_cases e1:57<D[k].toNat
        ·have e1':(57:Int)<(D[k].toNat:Int):=by omega
         have HF:=hid (Kc.out (by unfold isD;rw [decide_eq_false (p:=D[k].toNat≤57) (by omega),Bool.and_false]))
         go_wp2
         go_ret
         exact ⟨by rw [←HR.out,HF.out];rfl,rfl⟩
        ·have e1':¬(57:Int)<(D[k].toNat:Int):=by omega
         have hok:=Ke.out
         rw [HA.out,show isD D[k]=true from by unfold isD;rw [decide_eq_true (by omega),decide_eq_true (by omega)];rfl] at hok
         have Kf:=hid hok
         clear hok
         go_wp2
         go_round
         case rel=>exact ⟨k+1,by omega,by go_num,Kf.out⟩
         case measure=>simp [intOf];omega
      ·have hki:¬(k:Int)<(D.size:Int):=by omega
       have HF:=hid (show r=true from by
        rw [HI.out]
        have hall:=HA.out
        rw [List.take_of_length_le (by rw [Ka.out];omega)] at hall
        obtain ⟨t,ht⟩:=HC.out
        obtain ⟨⟨n0,n1⟩,n2⟩:=Kd.out
        refine ⟨⟨D[0],t,ht,fun e=>n0 (by rw [e];rfl)⟩,by rw [Ka.out];omega,fun ⟨q1,q2⟩=>?_,hall⟩
        rw [Ka.out] at q1
        exact n2.elim (fun n=>n q1) (fun n=>n q2))
       go_wp2
       go_ret
       exact ⟨by rw [←HR.out,HF.out];rfl,rfl⟩
    ·have HF:=hid (show r=false from by
      rw [←Bool.not_eq_true,HI.out]
      rintro ⟨⟨b,t,e1,e2⟩,h5,h6,-⟩
      have hB:=HB.out.symm
      simp only [Bool.or_eq_true,Bool.and_eq_true,decide_eq_true_eq] at hB
      obtain ⟨t2,ht2⟩:=HC.out
      rw [Ka.out] at h5 h6
      rcases hB with (h7|h7)|⟨h7,h8⟩
      ·rw [ht2] at e1
       injection e1 with e3 _
       exact e2 (by rw [←e3];exact UInt8.toNat_inj.1 h7)
      ·omega
      ·exact h6 ⟨h7,h8⟩)
     go_wp2
     go_ret
     exact ⟨by rw [←HR.out,HF.out];rfl,rfl⟩
  ·have HF:=hid (show isRunP pre f=false from by
    rw [←Bool.not_eq_true,isRunP_iff]
    rintro ⟨D,e,-⟩
    rw [←Kb.out] at e
    refine h2 (WideShapes.bytes_inj ?_)
    have hs:hd.size=hd.data.toList.length:=by rw [Array.length_toList];rfl
    rw [ByteArray.data_extract,Array.toList_extract,List.extract_eq_take_drop,e,List.drop_zero,hs,Nat.sub_zero,List.take_left])
   have hne:((f.extract 0 hd.size).toList==hd.toList)=false:=by rw [str_eqlR,decide_eq_false h2]
   go_wp2
   go_ret
   exact ⟨by rw [HF.out];rfl,rfl⟩
theorem refZero_any {w:World} {v:Value} {x:VerA} (hv:VerAt w v x) :
  Calls Tryz.prog 155 #[v] w fun e w'=>e=.returned (.bool (zeroB x))∧Upd (fun _=>False) w w':=by
 obtain ⟨s1,d1,s2,d2,rfl,-,-⟩:=hv
 obtain ⟨n1,hn1⟩:∃n,n=x.state.length:=⟨_,rfl⟩
 obtain ⟨n2,hn2⟩:∃n,n=x.runs.length:=⟨_,rfl⟩
 rw [←hn1,←hn2]
 have HN:=hid (And.intro hn1 hn2)
 clear hn1 hn2
 have hu:=(Upd.refl (fun _=>False) w).alloc (.cells #[.int .i64 x.gen,.int .i64 x.flushed,.int .i64 x.next,.int .i64 x.low,.int .i64 x.clock,.slice s1 n1 d1,.slice s2 n2 d2] 25)
 have hr:=heap_alloc_new w (.cells #[.int .i64 x.gen,.int .i64 x.flushed,.int .i64 x.next,.int .i64 x.low,.int .i64 x.clock,.slice s1 n1 d1,.slice s2 n2 d2] 25)
 go_enter Tryz.func155,Tryz.ntmps155
 go_upto_region 1 with fail
 obtain ⟨p,hp⟩:∃p,p=w.heap.size:=⟨_,rfl⟩
 rw [←hp] at hr⊢
 have HU:=hid hu
 generalize w.alloc (.cells #[.int .i64 x.gen,.int .i64 x.flushed,.int .i64 x.next,.int .i64 x.low,.int .i64 x.clock,.slice s1 n1 d1,.slice s2 n2 d2] 25)=W at hr HU⊢
 clear hu hp
 obtain ⟨⟨z0,z1,z2,z3,z4,z5,z6⟩,-,hzl⟩:=verCells hr
 have HZ:=hid (show zeroB x=(decide (x.gen=0)&&decide (x.flushed=0)&&decide (x.next=0)&&decide (x.low=0)&&decide (x.clock=0)&&decide (n1=0)&&decide (n2=0)) from by rw [HN.out.1,HN.out.2];rfl)
 clear hr
 by_cases h0:x.gen=0
 ·have hb0:(x.gen==0)=true:=by simp [h0]
  have H0:=hid h0
  clear h0
  by_cases h1:x.flushed=0
  ·have hb1:(x.flushed==0)=true:=by simp [h1]
   have H1:=hid h1
   clear h1
   by_cases h2:x.next=0
   ·have hb2:(x.next==0)=true:=by simp [h2]
    have H2:=hid h2
    clear h2
    by_cases h3:x.low=0
    ·have hb3:(x.low==0)=true:=by simp [h3]
     have H3:=hid h3
     clear h3
     by_cases h4:x.clock=0
     ·have hb4:(x.clock==0)=true:=by simp [h4]
      have H4:=hid h4
      clear h4
      by_cases h5:n1=0
      ·have hb5:((n1:Int)==0)=true:=by simp [h5]
       have H5:=hid h5
       clear h5
       by_cases h6:n2=0
       ·have hb6:((n2:Int)==0)=true:=by simp [h6]
        have H6:=hid h6
        clear h6
        go_wp2
        go_ret
        exact ⟨by rw [HZ.out,decide_eq_true H0.out,decide_eq_true H1.out,decide_eq_true H2.out,decide_eq_true H3.out,decide_eq_true H4.out,decide_eq_true H5.out,decide_eq_true H6.out];rfl,HU.out⟩
       ·have hb6:((n2:Int)==0)=false:=by simpa using h6
        have H6:=hid h6
        clear h6
        go_wp2
        go_ret
        exact ⟨by rw [HZ.out,decide_eq_true H0.out,decide_eq_true H1.out,decide_eq_true H2.out,decide_eq_true H3.out,decide_eq_true H4.out,decide_eq_true H5.out,decide_eq_false H6.out];simp<;>rfl,HU.out⟩
      ·have hb5:((n1:Int)==0)=false:=by simpa using h5
       have H5:=hid h5
       clear h5
       go_wp2
       go_ret
       exact ⟨by rw [HZ.out,decide_eq_true H0.out,decide_eq_true H1.out,decide_eq_true H2.out,decide_eq_true H3.out,decide_eq_true H4.out,decide_eq_false H5.out];simp<;>rfl,HU.out⟩
     ·have hb4:(x.clock==0)=false:=by simpa using h4
      have H4:=hid h4
      clear h4
      go_wp2
      go_ret
      exact ⟨by rw [HZ.out,decide_eq_true H0.out,decide_eq_true H1.out,decide_eq_true H2.out,decide_eq_true H3.out,decide_eq_false H4.out];simp<;>rfl,HU.out⟩
    ·have hb3:(x.low==0)=false:=by simpa using h3
     have H3:=hid h3
     clear h3
     go_wp2
     go_ret
     exact ⟨by rw [HZ.out,decide_eq_true H0.out,decide_eq_true H1.out,decide_eq_true H2.out,decide_eq_false H3.out];simp<;>rfl,HU.out⟩
   ·have hb2:(x.next==0)=false:=by simpa using h2
    have H2:=hid h2
    clear h2
    go_wp2
    go_ret
    exact ⟨by rw [HZ.out,decide_eq_true H0.out,decide_eq_true H1.out,decide_eq_false H2.out];simp<;>rfl,HU.out⟩
  ·have hb1:(x.flushed==0)=false:=by simpa using h1
   have H1:=hid h1
   clear h1
   go_wp2
   go_ret
   exact ⟨by rw [HZ.out,decide_eq_true H0.out,decide_eq_false H1.out];simp<;>rfl,HU.out⟩
 ·have hb0:(x.gen==0)=false:=by simpa using h0
  have H0:=hid h0
  clear h0
  go_wp2
  go_ret
  exact ⟨by rw [HZ.out,decide_eq_false H0.out];simp<;>rfl,HU.out⟩
theorem askedP_cases (a:DiskA) (pre:ByteArray):askedP a pre=if a.down=true then 3 else if nameOk (pre++tempB).data.toList=false then 40 else if 32<pre.size then 40 else 0:=by
 unfold askedP lookP lookRes
 cases a.down<;>cases nameOk (pre++tempB).data.toList<;>simp<;>split<;>simp
theorem refused_any {w:World} {r:RS} (hr:r.In w) (pre:ByteArray) (hp:pre.size≤140737488355328) :
  Calls Tryz.prog 154 #[.pointer (some ⟨r.p,0,none⟩),.string pre] w fun e w'=>e=.returned (.int .i64 (askedP r.abs pre))∧w'=w:=by
 have c2:=hr.c_off
 rw [askedP_cases]
 have HN:=hid (refName_any (pre++tempB) w)
 have hcs:¬(9223372036854775807<pre.size+12):=by omega
 rw [show r.abs.down=r.off from rfl]
 obtain ⟨off,hoff⟩:∃o,o=r.off:=⟨_,rfl⟩
 obtain ⟨p,hpp⟩:∃p,p=r.p:=⟨_,rfl⟩
 rw [←hoff,←hpp] at c2
 rw [←hoff,←hpp]
 obtain ⟨ok,hok⟩:∃o,o=nameOk (pre++tempB).data.toList:=⟨_,rfl⟩
 rw [←hok] at HN⊢
 clear hr hoff hpp hok
 cases off with
 | true=>
  go_enter Tryz.func154,Tryz.ntmps154
  go_wp2
  go_ret
  exact ⟨rfl,rfl⟩
 | false=>
  go_enter Tryz.func154,Tryz.ntmps154
  go_wp2_with fail
  refine HN.out.mono ?_
  rintro e W ⟨rfl,hww⟩
  obtain rfl:=hww.symm
  cases ok with
  | false=>
   go_wp2
   go_ret
   exact ⟨rfl,rfl⟩
  | true=>
   by_cases h32:32<pre.size
   ·have h32':(32:Int)<(pre.size:Int):=by omega
    go_wp2
    go_ret
    exact ⟨by simp [h32],rfl⟩
   ·have h32':¬(32:Int)<(pre.size:Int):=by omega
    go_wp2
    go_ret
    exact ⟨by simp [h32],rfl⟩
theorem findP_A (l:List FileA) (n:ByteArray):findP l n=findA l n:=by
 first|rfl|(unfold findP findA;rfl)
theorem lookP_C (a:DiskA) (n:ByteArray) (t:Bool):lookP a n t=lookC a n t:=by
 unfold lookP lookC
 rw [findP_A]
theorem deleteP_c (a:DiskA) (n:ByteArray):deleteP a n=cDelete a n:=by
 unfold deleteP cDelete
 rw [lookP_C]
theorem strict_eq {l m:List ByteArray} (hl:l.Pairwise (fun a b=>a.data.toList<b.data.toList)) (hm:m.Pairwise (fun a b=>a.data.toList<b.data.toList)) (hp:l.Perm m):l=m:=
 List.Perm.eq_of_pairwise (fun a b _ _ h1 h2=>absurd (List.lt_trans h1 h2) (List.lt_irrefl _)) hl hm hp
theorem listP_alike {a b:DiskA} (h:Alike a b) (hnd:NamesND a) (pre:ByteArray):listP a pre=listP b pre:=by
 unfold listP
 have hp:(a.files.map (·.name)).Perm (b.files.map (·.name)):=h.files.map _
 rw [strict_eq (sort_strict hnd) (sort_strict (hp.nodup_iff.1 hnd)) (((sortNames_perm _).trans hp).trans (sortNames_perm _).symm)]
theorem listR_p {r:RS} (hs:Sorted r.F) (hnd:NamesND r.abs) (pre:ByteArray):listR r.F pre=listP r.abs pre:=by
 unfold listR listP
 have hn:r.abs.files.map (·.name)=r.F.map (·.name):=by
  show (r.F.map FV.abs).map (·.name)=_
  rw [List.map_map];rfl
 rw [hn]
 unfold NamesND at hnd
 rw [hn] at hnd
 exact congrArg (List.filter (hasPre pre)) (strict_eq hs (sort_strict hnd) (sortNames_perm _).symm)
structure AlikeN (a b:DiskA):Prop where
 cap:a.cap=b.cap
 files:a.files.Perm b.files
 down:a.down=b.down
 armed:a.armed=b.armed
theorem Alike.n {a b:DiskA} (h:Alike a b):AlikeN a b:=⟨h.cap,h.files,h.down,h.armed⟩
theorem AlikeN.trans {a b c:DiskA} (h:AlikeN a b) (h':AlikeN b c):AlikeN a c:=⟨h.cap.trans h'.cap,h.files.trans h'.files,h.down.trans h'.down,h.armed.trans h'.armed⟩
theorem AlikeN.symm {a b:DiskA} (h:AlikeN a b):AlikeN b a:=⟨h.cap.symm,h.files.symm,h.down.symm,h.armed.symm⟩
theorem AlikeN.find {a b:DiskA} (h:AlikeN a b) (hnd:NamesND a) (n:ByteArray):findA a.files n=findA b.files n:=findA_perm h.files hnd n
theorem AlikeN.look {a b:DiskA} (h:AlikeN a b) (hnd:NamesND a) (n:ByteArray) (t:Bool):lookC a n t=lookC b n t:=by
 unfold lookC;rw [h.find hnd,h.down]
theorem AlikeN.act {a b:DiskA} (h:AlikeN a b) (co:Option Nat) {F G:List FileA} (hp:F.Perm G):(actA a co F).1=(actA b co G).1∧AlikeN (actA a co F).2 (actA b co G).2:=by
 unfold actA
 rw [h.armed]
 split
 ·exact ⟨rfl,h.cap,hp,h.down,rfl⟩
 ·split
  ·split
   ·exact ⟨rfl,h.cap,hp,rfl,rfl⟩
   ·exact ⟨rfl,h.cap,h.files,rfl,rfl⟩
  ·exact ⟨rfl,h.cap,hp,h.down,rfl⟩
theorem cDelete_n {a b:DiskA} (h:AlikeN a b) (hnd:NamesND a) (n:ByteArray):(cDelete a n).1=(cDelete b n).1∧AlikeN (cDelete a n).2 (cDelete b n).2:=by
 unfold cDelete
 rw [h.look hnd]
 split
 ·exact ⟨rfl,h⟩
 ·exact h.act _ (h.files.filter _)
theorem listP_n {a b:DiskA} (h:AlikeN a b) (hnd:NamesND a) (pre:ByteArray):listP a pre=listP b pre:=
 listP_alike (a:=a) (b:={ b with cnt:=a.cnt }) ⟨h.cap,h.files,h.down,h.armed,rfl⟩ hnd pre
structure RA (w:World) (r:RS) (a:DiskA):Prop where
 ins:r.In w
 so:Sorted r.F
 al:AlikeN r.abs a
structure RGo (w w':World) (r r2:RS) (a:DiskA):Prop where
 st:RStep w w' r r2
 ra:RA w' r2 a
section
variable {w w' w2:World} {r r2 r3:RS} {a a2:DiskA} {S:Nat→Prop}
theorem RA.nd (h:RA w r a):NamesND r.abs:=sorted_nodup h.so
theorem RA.upd (h:RA w r a) (hu:Upd S w w') (hn:∀k,r.own k→¬S k):RA w' r a:=⟨h.ins.upd hu hn,h.so,h.al⟩
theorem RA.keep (h:RA w r a) (hu:Upd (fun _=>False) w w'):RA w' r a:=h.upd hu (fun _ _ e=>e)
theorem RGo.of_upd (h:RA w r a) (hu:Upd (fun _=>False) w w'):RGo w w' r r a:=⟨RStep.of_upd h.ins hu,h.keep hu⟩
theorem RGo.trans (h:RGo w w' r r2 a) (h':RGo w' w2 r2 r3 a2):RGo w w2 r r3 a2:=⟨h.st.trans h'.st,h'.ra⟩
theorem RGo.then_upd (h:RGo w w' r r2 a) (hu:Upd S w' w2) (hS:∀k,S k→w.heap.size≤k∧¬r2.own k):RGo w w2 r r2 a:=
 ⟨⟨h.st.ins.upd hu (fun k hk hs=>(hS k hs).2 hk),h.st.p,h.st.upd.trans hu (fun k hk hs=>by have:=(hS k hs).1;omega),h.st.foot⟩,h.ra.upd hu (fun k hk hs=>(hS k hs).2 hk)⟩
theorem RGo.quiet (h:RGo w w' r r2 a) (hu:Upd (fun _=>False) w' w2):RGo w w2 r r2 a:=h.then_upd hu (fun _ e=>e.elim)
end
theorem askedP_n {a b:DiskA} (h:AlikeN a b) (hn:NamesND a) (pre:ByteArray):askedP a pre=askedP b pre:=by
 unfold askedP
 rw [lookP_C,lookP_C,h.look hn]
section
variable {w:World} {r:RS} {a:DiskA}
theorem RA.delete (h:RA w r a) (n:ByteArray):Calls Tryz.prog 159 #[.pointer (some ⟨r.p,0,none⟩),.string n] w fun e w'=>e=.returned (.int .i64 (deleteP a n).1)∧∃r2,RGo w w' r r2 (deleteP a n).2:=by
 obtain ⟨h1,h2⟩:=cDelete_n h.al h.nd n
 rw [deleteP_c,←h1]
 refine (refDelete_any h.ins n).mono ?_
 rintro e w' ⟨he,r2,hst,hal,hso⟩
 exact ⟨he,r2,hst,hst.ins,hso h.so,hal.n.trans h2⟩
theorem RA.refused (h:RA w r a) (pre:ByteArray) (hp:pre.size≤140737488355328) :
  Calls Tryz.prog 154 #[.pointer (some ⟨r.p,0,none⟩),.string pre] w fun e w'=>e=.returned (.int .i64 (askedP a pre))∧w'=w:=by
 rw [←askedP_n h.al h.nd]
 exact refused_any h.ins pre hp
end
theorem runName_temp (pre:ByteArray) (n:Int):runName pre n≠pre++tempB:=by
 intro e
 unfold runName at e
 have h:=congrArg (fun b:ByteArray=>b.data.toList) e
 split at h
 ·simp only [ByteArray.data_append,Array.toList_append] at h
  exact absurd (List.append_cancel_left h) (by decide)
 ·simp only [ByteArray.data_append,Array.toList_append,List.append_assoc] at h
  have h2:=List.append_cancel_left h
  injection h2 with h3 _
  exact absurd h3 (by decide)
theorem swap_goes (pre:ByteArray) (l:List MetaA) (f:ByteArray):((decide (f=pre++tempB) || isRunP pre f) && !namedB pre l f)=goesP pre l f:=by
 unfold goesP
 by_cases h:f=pre++tempB
 ·subst h
  have hn:namedB pre l (pre++tempB)=false:=by
   unfold namedB
   rw [List.any_eq_false]
   intro m hm e
   exact runName_temp pre _ (of_decide_eq_true e)
  rw [hn];simp
 ·rw [decide_eq_false h,Bool.false_or,Bool.false_or]
end Go.Proofs.YtgaidmohdhaonaaGreatDoor
