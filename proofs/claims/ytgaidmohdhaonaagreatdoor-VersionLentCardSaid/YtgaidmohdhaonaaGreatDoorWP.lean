/-
  Plain law, no program in sight: WireP.
  Plain law, no program in sight: CrcP.
  Plain law, no program in sight: CellP.
  Plain law, no program in sight: ManifP.
-/
import Derived.Laws.Cover1
set_option linter.unusedVariables false
set_option linter.unusedSimpArgs false
set_option linter.unnecessarySimpa false
set_option linter.unusedSectionVars false
namespace Go.Proofs.YtgaidmohdhaonaaGreatDoor
open Go
def uintB (n:Nat):List UInt8:=if n<128 then [UInt8.ofNat n] else UInt8.ofNat (128+n%128) :: uintB (n / 128)
theorem uintB_small {n:Nat} (h:n<128):uintB n=[UInt8.ofNat n]:=by rw [uintB,if_pos h]
theorem uintB_big {n:Nat} (h:¬n<128):uintB n=UInt8.ofNat (128+n%128) :: uintB (n / 128):=by rw [uintB,if_neg h]
theorem uintB_len (k:Nat):∀n,n<128^(k+1)→(uintB n).length≤k+1:=by
 induction k with
 | zero=>intro n h;rw [uintB_small (by simpa using h)];simp
 | succ k ih=>
  intro n h
  by_cases hs:n<128
  ·rw [uintB_small hs];simp
  ·rw [uintB_big hs,List.length_cons]
   have:=ih (n / 128) (by rw [Nat.div_lt_iff_lt_mul (by decide)];rw [Nat.pow_succ] at h;exact h)
   omega
def ru:List UInt8→Nat→Nat→Nat→Nat×Nat×Int
 | [],_,_,_=>(0,0,10)
 | c :: cs,p,i,v=>if i=9∧1<c.toNat then (0,0,13) else
  if c.toNat<128 then (if c.toNat=0∧0<i then (0,0,11) else (v+128^i*c.toNat,p+1,0)) else ru cs (p+1) (i+1) (v+128^i*(c.toNat-128))
def readU (b:List UInt8) (a:Nat):Nat×Nat×Int:=ru (b.drop a) a 0 0
theorem ru_ok (l:List UInt8):∀p i v,i≤9→v<128^i→(ru l p i v).2.2=0→(ru l p i v).1<18446744073709551616∧p<(ru l p i v).2.1∧(ru l p i v).2.1≤p+l.length∧(ru l p i v).2.1≤p+(10-i):=by
 induction l with
 | nil=>intro p i v _ _ h;simp [ru] at h
 | cons c cs ih=>
  intro p i v hi hv h
  rw [ru] at h⊢
  have hc:=c.toNat_lt
  have hpow:128^i≤128^9:=Nat.pow_le_pow_right (by decide) hi
  have h9:(128:Nat)^9=9223372036854775808:=by decide
  split at h
  ·simp at h
  ·rename_i h1
   rw [if_neg h1]
   split at h
   ·rename_i h2
    rw [if_pos h2]
    split at h
    ·simp at h
    ·rename_i h3
     rw [if_neg h3]
     refine ⟨?_,by simp,by simp,by show p+1≤_;omega⟩
     show v+128^i*c.toNat<_
     by_cases e:i=9
     ·subst e
      have:c.toNat≤1:=by omega
      have:=Nat.mul_le_mul_left (128^9) this
      omega
     ·have h8:128^i≤128^8:=Nat.pow_le_pow_right (by decide) (by omega)
      have h8':(128:Nat)^8=72057594037927936:=by decide
      have:128^i*c.toNat≤128^8*127:=Nat.mul_le_mul h8 (by omega)
      omega
   ·rename_i h2
    rw [if_neg h2]
    have hi':i≠9:=by omega
    have hp:(128:Nat)^(i+1)=128^i*128:=Nat.pow_succ ..
    have hm:128^i*(c.toNat-128)≤128^i*127:=Nat.mul_le_mul_left _ (by omega)
    have:=ih (p+1) (i+1) (v+128^i*(c.toNat-128)) (by omega) (by omega) h
    refine ⟨this.1,by omega,?_,by omega⟩
    have h4:=this.2.2.1
    simp only [List.length_cons]
    omega
theorem readU_ok {b:List UInt8} {a:Nat} (h:(readU b a).2.2=0) (ha:a≤b.length):(readU b a).1<18446744073709551616∧a<(readU b a).2.1∧(readU b a).2.1≤b.length:=by
 have:=ru_ok (b.drop a) a 0 0 (by omega) (by simp) h
 refine ⟨this.1,this.2.1,?_⟩
 have h2:=this.2.2.1
 rw [List.length_drop] at h2
 show (ru (b.drop a) a 0 0).2.1≤_
 omega
theorem ru_back (l:List UInt8):∀p i v,(ru l p i v).2.2=0→∃n q,l=uintB n++q∧(0<n∨i=0)∧(ru l p i v).1=v+128^i*n∧(ru l p i v).2.1=p+(uintB n).length:=by
 induction l with
 | nil=>intro p i v h;simp [ru] at h
 | cons c cs ih=>
  intro p i v h
  rw [ru] at h⊢
  have hc:=c.toNat_lt
  split at h
  ·simp at h
  ·rename_i h1
   rw [if_neg h1]
   split at h
   ·rename_i h2
    rw [if_pos h2]
    split at h
    ·simp at h
    ·rename_i h3
     rw [if_neg h3]
     refine ⟨c.toNat,cs,?_,by omega,rfl,?_⟩
     ·rw [uintB_small h2,UInt8.ofNat_toNat];rfl
     ·rw [uintB_small h2];rfl
   ·rename_i h2
    rw [if_neg h2]
    obtain ⟨n,q,e1,e2,e3,e4⟩:=ih _ _ _ h
    have hp:(128:Nat)^(i+1)=128^i*128:=Nat.pow_succ ..
    have hn:0<n:=by omega
    have hb:uintB (c.toNat-128+128*n)=c :: uintB n:=by
     rw [uintB_big (by omega)]
     congr 1
     ·rw [show 128+(c.toNat-128+128*n)%128=c.toNat by omega,UInt8.ofNat_toNat]
     ·congr 1;omega
    refine ⟨c.toNat-128+128*n,q,?_,by omega,?_,?_⟩
    ·rw [hb,e1];rfl
    ·rw [e3,hp,Nat.mul_add,Nat.mul_assoc];omega
    ·rw [e4,hb];simp only [List.length_cons];omega
theorem readU_back {b:List UInt8} {a:Nat} (h:(readU b a).2.2=0):b.drop a=uintB (readU b a).1++b.drop (readU b a).2.1:=by
 obtain ⟨n,q,e1,-,e3,e4⟩:=ru_back (b.drop a) a 0 0 h
 have e3':(readU b a).1=n:=by show (ru (b.drop a) a 0 0).1=n;rw [e3];simp
 have e4':(readU b a).2.1=a+(uintB n).length:=e4
 rw [e3',e4',←List.drop_drop,e1,List.drop_left]
def bytesB (b:List UInt8):List UInt8:=uintB b.length++b
def readB (b:List UInt8) (a most:Nat):List UInt8×Nat×Int:=
 if (readU b a).2.2≠0 then ([],0,(readU b a).2.2) else
 if most<(readU b a).1 then ([],0,13) else
 if b.length-(readU b a).2.1<(readU b a).1 then ([],0,10) else
 ((b.drop (readU b a).2.1).take (readU b a).1,(readU b a).2.1+(readU b a).1,0)
theorem readB_ok {b:List UInt8} {a most:Nat} (ha:a≤b.length) (h:(readB b a most).2.2=0):(readB b a most).1.length≤most∧(readB b a most).2.1≤b.length∧a<(readB b a most).2.1∧b.drop a=bytesB (readB b a most).1++b.drop (readB b a most).2.1:=by
 unfold readB at h⊢
 split at h
 ·rename_i h1;exact absurd h h1
 ·rename_i h1
  rw [if_neg h1]
  split at h
  ·simp at h
  ·rename_i h2
   rw [if_neg h2]
   split at h
   ·simp at h
   ·rename_i h3
    rw [if_neg h3]
    have h1':(readU b a).2.2=0:=by omega
    have hk:=readU_ok h1' ha
    have hl:(List.take (readU b a).1 (List.drop (readU b a).2.1 b)).length=(readU b a).1:=by
     rw [List.length_take,List.length_drop];omega
    refine ⟨by show List.length _≤_;rw [hl];omega,by show _+_≤_;omega,by show a<_+_;omega,?_⟩
    show _=bytesB (List.take _ (List.drop _ b))++List.drop (_+_) b
    unfold bytesB
    rw [hl,readU_back h1',List.append_assoc,←List.drop_drop,List.take_append_drop]
theorem readB_limit {b:List UInt8} {a most most':Nat} (h:(readB b a most).2.2=0) (hm:(readB b a most).1.length≤most'):readB b a most'=readB b a most:=by
 unfold readB at h hm⊢
 split at h
 ·rename_i h1;exact absurd h h1
 ·rename_i h1
  rw [if_neg h1] at hm⊢
  split at h
  ·simp at h
  ·rename_i h2
   rw [if_neg h2] at hm
   split at h
   ·simp at h
   ·rename_i h3
    rw [if_neg h3] at hm
    rw [if_neg h1,if_neg h2]
    rw [if_neg]
    dsimp only at hm
    rw [List.length_take,List.length_drop] at hm
    omega
def cbit (r c:Nat):Nat:=if r%2≠c%2 then (r / 2) ^^^ 2197175160 else r / 2
def cbits:Nat→Nat→Nat→Nat
 | 0,r,_=>r
 | k+1,r,c=>cbits k (cbit r c) (c / 2)
def cbyte (r:Nat) (b:UInt8):Nat:=cbits 8 r b.toNat
def creg (r:Nat) (bs:List UInt8):Nat:=bs.foldl cbyte r
def crc (bs:List UInt8):Nat:=4294967295-creg 4294967295 bs
theorem xor_half (a b:Nat):(a ^^^ b) / 2=(a / 2) ^^^ (b / 2):=by
 have:=Nat.shiftRight_xor_distrib (i:=1) (a:=a) (b:=b)
 simpa [Nat.shiftRight_eq_div_pow] using this
theorem xor_div16 (a b:Nat):(a ^^^ b) / 16=(a / 16) ^^^ (b / 16):=by
 have:=Nat.shiftRight_xor_distrib (i:=4) (a:=a) (b:=b)
 simpa [Nat.shiftRight_eq_div_pow] using this
theorem xor_mod16 (a b:Nat):(a ^^^ b)%16=(a%16) ^^^ (b%16):=Nat.xor_mod_two_pow (n:=4)
def cs (z:Nat):Nat:=if z%2=1 then (z / 2) ^^^ 2197175160 else z / 2
theorem xor_parity (a b:Nat):((a ^^^ b)%2=1)=(a%2≠b%2):=by
 have:=@Nat.xor_mod_two_eq_one a b
 apply propext
 rw [this]
 omega
theorem cs_xor (a b:Nat):cs (a ^^^ b)=cs a ^^^ cs b:=by
 unfold cs
 rw [xor_half]
 simp only [xor_parity]
 by_cases h1:a%2=1<;>by_cases h2:b%2=1
 ·rw [if_neg (by omega),if_pos h1,if_pos h2]
  rw [Nat.xor_assoc,←Nat.xor_assoc 2197175160,Nat.xor_comm 2197175160,Nat.xor_assoc,Nat.xor_self,Nat.xor_zero]
 ·rw [if_pos (by omega),if_pos h1,if_neg h2,Nat.xor_assoc,Nat.xor_assoc,Nat.xor_comm 2197175160]
 ·rw [if_pos (by omega),if_neg h1,if_pos h2,Nat.xor_assoc]
 ·rw [if_neg (by omega),if_neg h1,if_neg h2]
theorem cbit_cs (r c:Nat):cbit r c ^^^ (c / 2)=cs (r ^^^ c):=by
 unfold cbit cs
 rw [xor_half]
 simp only [xor_parity]
 by_cases h:r%2≠c%2
 ·rw [if_pos h,if_pos h,Nat.xor_assoc,Nat.xor_comm 2197175160,Nat.xor_assoc]
 ·rw [if_neg h,if_neg h]
def cs4 (z:Nat):Nat:=cs (cs (cs (cs z)))
theorem cs4_xor (a b:Nat):cs4 (a ^^^ b)=cs4 a ^^^ cs4 b:=by unfold cs4;simp only [cs_xor]
def crcTab:List Nat:=[0x00000000,0x105ec76f,0x20bd8ede,0x30e349b1,0x417b1dbc,0x5125dad3,0x61c69362,0x7198540d,0x82f63b78,0x92a8fc17,0xa24bb5a6,0xb21572c9,0xc38d26c4,0xd3d3e1ab,0xe330a81a,0xf36e6f75]
theorem cs4_tab:∀n:Fin 16,crcTab[n.1]? = some (cs4 n.1):=by decide +kernel
theorem cs4_high (a:Nat) (h:a%16=0):cs4 a=a / 16:=by
 unfold cs4
 have e1:cs a=a / 2:=by unfold cs;rw [if_neg (by omega)]
 have e2:cs (a / 2)=a / 4:=by unfold cs;rw [if_neg (by omega)];omega
 have e3:cs (a / 4)=a / 8:=by unfold cs;rw [if_neg (by omega)];omega
 have e4:cs (a / 8)=a / 16:=by unfold cs;rw [if_neg (by omega)];omega
 rw [e1,e2,e3,e4]
theorem cs4_split (z:Nat):cs4 z=(z / 16) ^^^ cs4 (z%16):=by
 have h:z=(z ^^^ (z%16)) ^^^ (z%16):=by rw [Nat.xor_assoc,Nat.xor_self,Nat.xor_zero]
 have h1:cs4 z=cs4 ((z ^^^ (z%16)) ^^^ (z%16)):=by rw [←h]
 rw [h1,cs4_xor,cs4_high _ (by rw [xor_mod16,Nat.mod_mod,Nat.xor_self]),xor_div16,show z%16 / 16=0 by omega,Nat.xor_zero]
theorem cbits_cs (r c:Nat):cbits 4 r c ^^^ (c / 16)=cs4 (r ^^^ c):=by
 show cbit (cbit (cbit (cbit r c) (c / 2)) (c / 2 / 2)) (c / 2 / 2 / 2) ^^^ _=_
 unfold cs4
 rw [←cbit_cs r c,←cbit_cs _ (c / 2),←cbit_cs _ (c / 2 / 2),←cbit_cs _ (c / 2 / 2 / 2),show c / 2 / 2 / 2 / 2=c / 16 by omega]
theorem cbits4 (r c:Nat):∃t,crcTab[(r ^^^ c)%16]? = some t∧cbits 4 r c=(r / 16) ^^^ t:=by
 refine ⟨cs4 ((r ^^^ c)%16),cs4_tab ⟨(r ^^^ c)%16,Nat.mod_lt _ (by decide)⟩,?_⟩
 have h1:cbits 4 r c=cs4 (r ^^^ c) ^^^ (c / 16):=by rw [←cbits_cs,Nat.xor_assoc,Nat.xor_self,Nat.xor_zero]
 rw [h1,cs4_split,xor_div16,Nat.xor_assoc (r / 16),Nat.xor_assoc (r / 16),Nat.xor_comm (c / 16),Nat.xor_assoc (cs4 _),Nat.xor_self,Nat.xor_zero]
theorem cbits8 (r c:Nat):cbits 8 r c=cbits 4 (cbits 4 r c) (c / 16):=by
 show cbits 4 (cbits 4 r c) (c / 2 / 2 / 2 / 2)=_
 rw [show c / 2 / 2 / 2 / 2=c / 16 by omega]
theorem cbit_lt {r c:Nat} (h:r<4294967296):cbit r c<4294967296:=by
 unfold cbit
 split
 ·exact Nat.xor_lt_two_pow (n:=32) (by omega) (by omega)
 ·omega
theorem cbits_lt (k:Nat):∀ {r c:Nat},r<4294967296→cbits k r c<4294967296:=by
 induction k with
 | zero=>intro r c h;exact h
 | succ k ih=>intro r c h;exact ih (cbit_lt h)
theorem creg_lt (bs:List UInt8):∀ {r:Nat},r<4294967296→creg r bs<4294967296:=by
 induction bs with
 | nil=>intro r h;exact h
 | cons b bs ih=>intro r h;exact ih (cbits_lt 8 h)
theorem crc_lt (bs:List UInt8):crc bs<4294967296:=by unfold crc;omega
theorem creg_append (r:Nat) (a b:List UInt8):creg r (a++b)=creg (creg r a) b:=List.foldl_append
theorem creg_step (r:Nat) (bs:List UInt8) (k:Nat) (h:k<bs.length):creg r (bs.take (k+1))=cbyte (creg r (bs.take k)) bs[k]:=by
 rw [List.take_succ_eq_append_getElem h,creg_append];rfl
theorem not32 (r:Nat) (h:r<4294967296):r ^^^ 4294967295=4294967295-r:=by
 have h1:=BitVec.toNat_not (x:=BitVec.ofNat 32 r)
 have h2:(BitVec.ofNat 32 r ^^^ BitVec.allOnes 32).toNat=r ^^^ 4294967295:=by
  rw [BitVec.toNat_xor,BitVec.toNat_ofNat,Nat.mod_eq_of_lt (by omega),BitVec.toNat_allOnes]
 rw [←h2,BitVec.xor_allOnes,h1,BitVec.toNat_ofNat,Nat.mod_eq_of_lt (by omega)]
def lowB (v:Nat):List UInt8:=[UInt8.ofNat v,UInt8.ofNat (v / 256),UInt8.ofNat (v / 65536),UInt8.ofNat (v / 16777216)]
def highB (v:Nat):List UInt8:=[UInt8.ofNat (v / 16777216),UInt8.ofNat (v / 65536),UInt8.ofNat (v / 256),UInt8.ofNat v]
def frameB (b:List UInt8):List UInt8:=highB b.length++lowB (crc (highB b.length))++b++lowB (crc b)
def num4 (l:List UInt8):Nat:=l.foldl (fun n c=>256*n+c.toNat) 0
def readFr (b:List UInt8) (a:Nat):List UInt8×Nat×Int:=
 if b.length-a<8 then ([],0,10) else
 if (b.drop (a+4)).take 4≠lowB (crc ((b.drop a).take 4)) then ([],0,12) else
 if 1048576<num4 ((b.drop a).take 4) then ([],0,13) else
 if b.length-(a+8)<num4 ((b.drop a).take 4)+4 then ([],0,10) else
 if (b.drop (a+8+num4 ((b.drop a).take 4))).take 4≠lowB (crc ((b.drop (a+8)).take (num4 ((b.drop a).take 4)))) then ([],0,12) else
 ((b.drop (a+8)).take (num4 ((b.drop a).take 4)),a+8+num4 ((b.drop a).take 4)+4,0)
theorem frameB_length (b:List UInt8):(frameB b).length=b.length+12:=by simp [frameB,highB,lowB]
def ordT:List UInt8→List UInt8
 | []=>[]
 | c :: cs=>if c.toNat=0 then c :: 255 :: ordT cs else c :: ordT cs
def ordB (b:List UInt8):List UInt8:=ordT b ++ [0,1]
theorem ordT_append (a b:List UInt8):ordT (a++b)=ordT a++ordT b:=by
 induction a with
 | nil=>rfl
 | cons c cs ih=>simp only [List.cons_append,ordT];split<;>simp [ih]
theorem ordT_step (b:List UInt8) (k:Nat) (h:k<b.length):ordT (b.take (k+1))=ordT (b.take k)++(if b[k].toNat=0 then [b[k],255] else [b[k]]):=by
 rw [List.take_succ_eq_append_getElem h,ordT_append]
 congr 1
theorem ordT_len (b:List UInt8):(ordT b).length≤2*b.length:=by
 induction b with
 | nil=>simp [ordT]
 | cons c cs ih=>simp only [ordT];split<;>simp<;>omega
def ro:List UInt8→Nat→List UInt8→List UInt8×Nat×Int
 | [],_,_=>([],0,10)
 | [_],_,_=>([],0,10)
 | c :: d :: cs,p,acc=>if c.toNat≠0 then ro (d :: cs) (p+1) (acc ++ [c]) else
  if d.toNat=1 then (acc,p+2,0) else if d.toNat=255 then ro cs (p+2) (acc ++ [c]) else ([],0,11)
def readO (b:List UInt8) (a:Nat):List UInt8×Nat×Int:=ro (b.drop a) a []
theorem byte_eq {c d:UInt8} (h:c.toNat=d.toNat):c=d:=UInt8.toNat_inj.1 h
theorem ro_back (l:List UInt8) (p:Nat) (acc:List UInt8):(ro l p acc).2.2=0→∃x q,l=ordB x++q∧(ro l p acc).1=acc++x∧(ro l p acc).2.1=p+(ordB x).length:=by
 induction l,p,acc using ro.induct with
 | case1 p acc=>intro h;simp [ro] at h
 | case2 c p acc=>intro h;simp [ro] at h
 | case3 c d cs p acc h1 ih=>
  intro h
  rw [ro,if_pos h1] at h⊢
  obtain ⟨x,q,e1,e2,e3⟩:=ih h
  refine ⟨c :: x,q,?_,by rw [e2,List.append_assoc];rfl,?_⟩
  ·unfold ordB at e1⊢
   rw [ordT,if_neg h1,e1];rfl
  ·unfold ordB at e3⊢
   rw [e3,ordT,if_neg h1];simp;omega
 | case4 c d cs p acc h1 h2=>
  intro h
  rw [ro,if_neg h1,if_pos h2]
  have hc:c=0:=byte_eq (by simpa using h1)
  have hd:d=1:=byte_eq (by simpa using h2)
  subst hc hd
  exact ⟨[],cs,rfl,by simp,rfl⟩
 | case5 c d cs p acc h1 h2 h3 ih=>
  intro h
  rw [ro,if_neg h1,if_neg h2,if_pos h3] at h⊢
  obtain ⟨x,q,e1,e2,e3⟩:=ih h
  have hc:c.toNat=0:=by omega
  have hd:d=255:=byte_eq (by simpa using h3)
  subst hd
  refine ⟨c :: x,q,?_,by rw [e2,List.append_assoc];rfl,?_⟩
  ·unfold ordB at e1⊢
   rw [ordT,if_pos hc,e1];rfl
  ·unfold ordB at e3⊢
   rw [e3,ordT,if_pos hc];simp;omega
 | case6 c d cs p acc h1 h2 h3=>
  intro h
  rw [ro,if_neg h1,if_neg h2,if_neg h3] at h
  simp at h
theorem readO_back {b:List UInt8} {a:Nat} (h:(readO b a).2.2=0):b.drop a=ordB (readO b a).1++b.drop (readO b a).2.1∧(readO b a).2.1=a+(ordB (readO b a).1).length∧(readO b a).2.1≤b.length:=by
 obtain ⟨x,q,e1,e2,e3⟩:=ro_back (b.drop a) a [] h
 have e2':(readO b a).1=x:=by show (ro _ _ _).1=x;rw [e2];rfl
 have e3':(readO b a).2.1=a+(ordB x).length:=e3
 rw [e2',e3']
 have hl:=congrArg List.length e1
 rw [List.length_drop,List.length_append] at hl
 have:2≤(ordB x).length:=by unfold ordB;simp
 refine ⟨?_,rfl,by omega⟩
 rw [←List.drop_drop,e1,List.drop_left]
theorem ro_err (l:List UInt8) (p:Nat) (acc:List UInt8):(ro l p acc).2.2=0∨((ro l p acc).1=[]∧(ro l p acc).2.1=0∧((ro l p acc).2.2=10∨(ro l p acc).2.2=11)):=by
 induction l,p,acc using ro.induct with
 | case1 p acc=>right;simp [ro]
 | case2 c p acc=>right;simp [ro]
 | case3 c d cs p acc h1 ih=>rw [ro,if_pos h1];exact ih
 | case4 c d cs p acc h1 h2=>rw [ro,if_neg h1,if_pos h2];exact .inl rfl
 | case5 c d cs p acc h1 h2 h3 ih=>rw [ro,if_neg h1,if_neg h2,if_pos h3];exact ih
 | case6 c d cs p acc h1 h2 h3=>rw [ro,if_neg h1,if_neg h2,if_neg h3];right;simp
def eightB (n:Nat):List UInt8:=[UInt8.ofNat (n / 72057594037927936),UInt8.ofNat (n / 281474976710656),UInt8.ofNat (n / 1099511627776),UInt8.ofNat (n / 4294967296),UInt8.ofNat (n / 16777216),UInt8.ofNat (n / 65536),UInt8.ofNat (n / 256),UInt8.ofNat n]
def numB (l:List UInt8):Nat:=l.foldl (fun n c=>256*n+c.toNat) 0
def readF (b:List UInt8) (a:Nat):Nat×Nat×Int:=
 if b.length-a<8 then (0,0,10) else
 if 127<(b.getD a 0).toNat then (0,0,13) else
 (9223372036854775807-numB ((b.drop a).take 8),a+8,0)
theorem numB_snoc (l:List UInt8) (c:UInt8):numB (l ++ [c])=256*numB l+c.toNat:=by simp [numB]
theorem numB_lt' (l:List UInt8):∀n,l.foldl (fun n c=>256*n+c.toNat) n<(n+1)*256^l.length:=by
 induction l with
 | nil=>intro n;simp
 | cons c cs ih=>
  intro n
  refine Nat.lt_of_lt_of_le (ih (256*n+c.toNat)) ?_
  have:=c.toNat_lt
  rw [List.length_cons,Nat.pow_succ,Nat.mul_comm (256^_),←Nat.mul_assoc]
  exact Nat.mul_le_mul_right _ (by omega)
theorem numB_lt (l:List UInt8):numB l<256^l.length:=by
 have:=numB_lt' l 0
 simpa [numB] using this
theorem readF_end {b:List UInt8} {a:Nat} (h:(readF b a).2.2=0):(readF b a).2.1=a+8:=by
 unfold readF at h⊢
 split at h
 ·simp at h
 ·rename_i h1
  rw [if_neg h1]
  split at h
  ·simp at h
  ·rename_i h2
   rw [if_neg h2]
structure EntA where
 row:List UInt8
 fam:Int
 qual:List UInt8
 ts:Int
 seq:Int
 kind:Int
def EntA.bad (e:EntA):Int:=
 if e.row.length<1∨256<e.row.length then 20 else
 if e.fam<0∨7<e.fam then 21 else
 if 256<e.qual.length∨(e.kind=5∧0<e.qual.length) then 22 else
 if e.ts<1∨1099511627776<e.ts then 23 else
 if e.seq<0∨17592186044431<e.seq then 24 else
 if e.kind<1∨5<e.kind then 25 else 0
def EntA.key (e:EntA):List UInt8:=
 ordB e.row ++ [UInt8.ofNat e.fam.toNat,if e.kind=5 then 0 else 1]++(if e.kind=5 then [] else ordB e.qual ++ [if e.kind=4 then 0 else 1]) ++
  eightB (9223372036854775807-e.ts.toNat)++eightB (9223372036854775807-e.seq.toNat) ++ [UInt8.ofNat e.kind.toNat]
def parseT (b:List UInt8) (row:List UInt8) (fam:Int) (qual:List UInt8) (a:Nat):Option (EntA×Nat):=
 if (readF b a).2.2≠0 then none else
 if (readF b (readF b a).2.1).2.2≠0∨b.length≤(readF b (readF b a).2.1).2.1 then none else
 some (⟨row,fam,qual,(readF b a).1,(readF b (readF b a).2.1).1,(b.getD (readF b (readF b a).2.1).2.1 0).toNat⟩,(readF b (readF b a).2.1).2.1)
def parseP (b:List UInt8):Option (EntA×Nat):=
 if (readO b 0).2.2≠0∨b.length<(readO b 0).2.1+2 then none else
 if (b.getD ((readO b 0).2.1+1) 0).toNat=0 then parseT b (readO b 0).1 (b.getD (readO b 0).2.1 0).toNat [] ((readO b 0).2.1+2) else
 if (readO b ((readO b 0).2.1+2)).2.2≠0∨b.length≤(readO b ((readO b 0).2.1+2)).2.1 then none else
 parseT b (readO b 0).1 (b.getD (readO b 0).2.1 0).toNat (readO b ((readO b 0).2.1+2)).1 ((readO b ((readO b 0).2.1+2)).2.1+1)
def isKeyB (b:List UInt8):Bool:=match parseP b with
 | none=>false
 | some (e,_)=>decide (e.bad=0∧e.key=b)
theorem parseT_some {b row qual:List UInt8} {fam:Int} {a p:Nat} {e:EntA} (h:parseT b row fam qual a=some (e,p)):e.row=row∧e.fam=fam∧e.qual=qual∧p=a+16∧p<b.length:=by
 unfold parseT at h
 split at h
 ·cases h
 ·rename_i h1
  split at h
  ·cases h
  ·rename_i h2
   have e1:(readF b a).2.1=a+8:=readF_end (by omega)
   have e2:(readF b (readF b a).2.1).2.1=a+16:=by rw [readF_end (by omega),e1]
   cases h
   refine ⟨rfl,rfl,rfl,e2,by omega⟩
theorem eightB_len (n:Nat):(eightB n).length=8:=rfl
theorem key_len (e:EntA):e.key.length=(ordB e.row).length+2+(if e.kind=5 then 0 else (ordB e.qual).length+1)+17:=by
 unfold EntA.key
 simp only [List.length_append,List.length_cons,List.length_nil,eightB_len]
 split<;>simp
theorem key_flag (e:EntA):e.key.getD ((ordB e.row).length+1) 0=if e.kind=5 then 0 else 1:=by
 unfold EntA.key
 simp only [List.append_assoc,List.getD_eq_getElem?_getD]
 rw [List.getElem?_append_right (by omega)]
 simp
theorem parse_end {b:List UInt8} {e:EntA} {p:Nat} (h:parseP b=some (e,p)) (hk:e.key=b):p+1=b.length:=by
 have hf:=key_flag e
 have hl:=key_len e
 rw [hk] at hf hl
 unfold parseP at h
 split at h
 ·cases h
 ·rename_i h1
  have h0:(readO b 0).2.2=0:=by omega
  obtain ⟨-,r2,r3⟩:=readO_back h0
  rw [Nat.zero_add] at r2
  split at h
  ·rename_i h2
   obtain ⟨e1,-,e3,e4,e5⟩:=parseT_some h
   rw [e1,←r2] at hf hl
   rw [hf] at h2
   have hk5:e.kind=5:=by
    by_cases hk5:e.kind=5
    ·exact hk5
    ·rw [if_neg hk5] at h2;exact absurd h2 (by decide)
   rw [if_pos hk5] at hl
   omega
  ·rename_i h2
   split at h
   ·cases h
   ·rename_i h3
    have h4:(readO b ((readO b 0).2.1+2)).2.2=0:=by omega
    obtain ⟨-,q2,q3⟩:=readO_back h4
    obtain ⟨e1,-,e3,e4,e5⟩:=parseT_some h
    rw [e1,←r2] at hf hl
    rw [hf] at h2
    have hk5:e.kind≠5:=by
     intro hk5
     rw [if_pos hk5] at h2
     exact h2 (by decide)
    rw [if_neg hk5,e3] at hl
    omega
structure MetaA where
 num:Int
 count:Int
 index:Int
 low:Int
 clock:Int
 bytes:Int
 first:List UInt8
 last:List UInt8
structure VerA where
 gen:Int
 flushed:Int
 next:Int
 low:Int
 clock:Int
 state:List UInt8
 runs:List MetaA
def zeroMeta:MetaA:=⟨0,0,0,0,0,0,[],[]⟩
def zeroVer:VerA:=⟨0,0,0,0,0,[],[]⟩
def ins (n lo hi:Int):Bool:=decide (lo≤n∧n≤hi)
def leL:List UInt8→List UInt8→Bool
 | [],_=>true
 | _ :: _,[]=>false
 | a :: as,b :: bs=>if a.toNat<b.toNat then true else if b.toNat<a.toNat then false else leL as bs
def fitsA (v:VerA) (r:MetaA):Bool:=
 (ins r.num 1 (v.next-1)&&decide (1≤r.count)&&ins r.index 0 v.flushed&&ins r.bytes 1 16777216) &&
 (ins r.clock 1 v.clock&&ins r.low 0 v.low&&decide (r.low<r.clock))&&(isKeyB r.first&&(isKeyB r.last&&leL r.first r.last))
def behindA (p r:MetaA):Bool:=decide (r.index<p.index∧r.clock≤p.clock∧r.low≤p.low)
def runOkA (v:VerA) (i:Nat):Bool:=
 fitsA v (v.runs.getD i zeroMeta) && !((v.runs.take i).any fun r=>decide (r.num=(v.runs.getD i zeroMeta).num)) &&
 (decide (i=0) || behindA (v.runs.getD (i-1) zeroMeta) (v.runs.getD i zeroMeta))
def headA (v:VerA):Bool:=
 ins v.gen 1 1099511627776&&ins v.flushed 0 1099511627776&&ins v.next 1 1099511627776&&ins v.clock 1 1099511627776&&ins v.low 0 (v.clock-1) &&
 decide (v.state.length≤131072)&&decide (v.runs.length≤64)
def okA (v:VerA):Bool:=headA v&&(List.range v.runs.length).all (runOkA v)
def checkA (v:VerA):Int:=if okA v then 0 else 101
def uintsB (l:List Int):List UInt8:=(l.map fun n=>uintB (n%18446744073709551616).toNat).flatten
def metaB (r:MetaA):List UInt8:=uintsB [r.num,r.count,r.index,r.low,r.clock,r.bytes]++(bytesB r.first++bytesB r.last)
def bodyB (v:VerA):List UInt8:=uintsB [v.gen,v.flushed,v.next,v.low,v.clock]++(bytesB v.state++(uintsB [(v.runs.length:Int)]++(v.runs.map metaB).flatten))
def magicB:List UInt8:=[83,84,82,65,84,65,45,77]
def encodeB (v:VerA):List UInt8:=magicB++frameB (bodyB v)
structure RdA where
 at':Nat
 bad:Bool
def rdN (b:List UInt8) (s:RdA):Int×RdA:=
 if (readU b s.at').2.2≠0∨9223372036854775807<(readU b s.at').1 then (0,⟨s.at',true⟩) else ((readU b s.at').1,⟨(readU b s.at').2.1,s.bad⟩)
def rdB (b:List UInt8) (most:Nat) (s:RdA):List UInt8×RdA:=
 if (readB b s.at' most).2.2≠0 then ([],⟨s.at',true⟩) else ((readB b s.at' most).1,⟨(readB b s.at' most).2.1,s.bad⟩)
def rdN' (b:List UInt8) (s:RdA):Int×RdA:=if s.bad then (0,s) else rdN b s
def rdB' (b:List UInt8) (most:Nat) (s:RdA):List UInt8×RdA:=if s.bad then ([],s) else rdB b most s
def rdMetaG (N:RdA→Int×RdA) (B:RdA→List UInt8×RdA) (s:RdA):MetaA×RdA:=
 let a:=N s;let b:=N a.2;let c:=N b.2;let d:=N c.2;let e:=N d.2;let f:=N e.2;let g:=B f.2;let h:=B g.2
 (⟨a.1,b.1,c.1,d.1,e.1,f.1,g.1,h.1⟩,h.2)
def rdRunsG (M:RdA→MetaA×RdA):Nat→RdA→List MetaA×RdA
 | 0,s=>([],s)
 | k+1,s=>if s.bad then ([],s) else ((M s).1 :: (rdRunsG M k (M s).2).1,(rdRunsG M k (M s).2).2)
def rdVerG (N:RdA→Int×RdA) (S B:RdA→List UInt8×RdA):VerA×RdA:=
 let a:=N ⟨0,false⟩;let b:=N a.2;let c:=N b.2;let d:=N c.2;let e:=N d.2;let f:=S e.2;let g:=N f.2
 let r:=rdRunsG (rdMetaG N B) (min g.1.toNat 65) g.2
 (⟨a.1,b.1,c.1,d.1,e.1,f.1,r.1⟩,r.2)
def decodeA (b:List UInt8):Option VerA:=
 if b.take 8≠magicB then none else
 if (readFr b 8).2.2≠0∨(readFr b 8).2.1≠b.length then none else
 if (rdVerG (rdN (readFr b 8).1) (rdB (readFr b 8).1 131072) (rdB (readFr b 8).1 (readFr b 8).1.length)).2.bad then none else
 if okA (rdVerG (rdN (readFr b 8).1) (rdB (readFr b 8).1 131072) (rdB (readFr b 8).1 (readFr b 8).1.length)).1∧
  encodeB (rdVerG (rdN (readFr b 8).1) (rdB (readFr b 8).1 131072) (rdB (readFr b 8).1 (readFr b 8).1.length)).1=b then
  some (rdVerG (rdN (readFr b 8).1) (rdB (readFr b 8).1 131072) (rdB (readFr b 8).1 (readFr b 8).1.length)).1 else none
def decodeR (b:List UInt8):Option VerA:=
 if b.take 8≠magicB then none else
 if (readFr b 8).2.2≠0∨(readFr b 8).2.1≠b.length then none else
 if (rdVerG (rdN' (readFr b 8).1) (rdB' (readFr b 8).1 (readFr b 8).1.length) (rdB' (readFr b 8).1 (readFr b 8).1.length)).2.bad then none else
 if okA (rdVerG (rdN' (readFr b 8).1) (rdB' (readFr b 8).1 (readFr b 8).1.length) (rdB' (readFr b 8).1 (readFr b 8).1.length)).1∧
  encodeB (rdVerG (rdN' (readFr b 8).1) (rdB' (readFr b 8).1 (readFr b 8).1.length) (rdB' (readFr b 8).1 (readFr b 8).1.length)).1=b then
  some (rdVerG (rdN' (readFr b 8).1) (rdB' (readFr b 8).1 (readFr b 8).1.length) (rdB' (readFr b 8).1 (readFr b 8).1.length)).1 else none
theorem rdN_bad {b:List UInt8} {s:RdA} (h:(rdN b s).2.bad=false):s.bad=false:=by
 unfold rdN at h;split at h
 ·simp at h
 ·exact h
theorem rdB_bad {b:List UInt8} {m:Nat} {s:RdA} (h:(rdB b m s).2.bad=false):s.bad=false:=by
 unfold rdB at h;split at h
 ·simp at h
 ·exact h
theorem rdN'_bad {b:List UInt8} {s:RdA} (h:(rdN' b s).2.bad=false):s.bad=false:=by
 unfold rdN' at h;split at h
 ·exact h
 ·exact rdN_bad h
theorem rdB'_bad {b:List UInt8} {m:Nat} {s:RdA} (h:(rdB' b m s).2.bad=false):s.bad=false:=by
 unfold rdB' at h;split at h
 ·exact h
 ·exact rdB_bad h
def Follows {α:Type} (f g:RdA→α×RdA):Prop:=∀s,(f s).2.bad=false→s.bad=false∧g s=f s
theorem follows_N (b:List UInt8):Follows (rdN b) (rdN' b):=fun s h=>⟨rdN_bad h,by unfold rdN';rw [rdN_bad h];rfl⟩
theorem follows_N' (b:List UInt8):Follows (rdN' b) (rdN b):=fun s h=>⟨rdN'_bad h,by unfold rdN';rw [rdN'_bad h];rfl⟩
theorem follows_B (b:List UInt8) (m:Nat):Follows (rdB b m) (rdB' b m):=fun s h=>⟨rdB_bad h,by unfold rdB';rw [rdB_bad h];rfl⟩
theorem follows_B' (b:List UInt8) (m:Nat):Follows (rdB' b m) (rdB b m):=fun s h=>⟨rdB'_bad h,by unfold rdB';rw [rdB'_bad h];rfl⟩
theorem follows_meta {N N':RdA→Int×RdA} {B B':RdA→List UInt8×RdA} (hN:Follows N N') (hB:Follows B B'):Follows (rdMetaG N B) (rdMetaG N' B'):=by
 intro s h
 obtain ⟨h7,e8⟩:=hB _ h
 obtain ⟨h6,e7⟩:=hB _ h7
 obtain ⟨h5,e6⟩:=hN _ h6
 obtain ⟨h4,e5⟩:=hN _ h5
 obtain ⟨h3,e4⟩:=hN _ h4
 obtain ⟨h2,e3⟩:=hN _ h3
 obtain ⟨h1,e2⟩:=hN _ h2
 obtain ⟨h0,e1⟩:=hN _ h1
 refine ⟨h0,?_⟩
 unfold rdMetaG
 simp only [e1,e2,e3,e4,e5,e6,e7,e8]
theorem follows_runs {M M':RdA→MetaA×RdA} (hM:Follows M M') (k:Nat):Follows (rdRunsG M k) (rdRunsG M' k):=by
 induction k with
 | zero=>intro s h;exact ⟨h,rfl⟩
 | succ k ih=>
  intro s h
  rw [rdRunsG] at h
  by_cases hb:s.bad=true
  ·rw [if_pos hb] at h;rw [hb] at h;cases h
  ·rw [if_neg hb] at h
   obtain ⟨h1,e1⟩:=ih _ h
   obtain ⟨h0,e0⟩:=hM _ h1
   refine ⟨h0,?_⟩
   rw [rdRunsG,rdRunsG,if_neg hb,if_neg hb,e0,e1]
theorem follows_ver {N N':RdA→Int×RdA} {S S' B B':RdA→List UInt8×RdA} (hN:Follows N N') (hB:Follows B B') (hS0:∀s,(S s).2.bad=false→s.bad=false)
  (h:(rdVerG N S B).2.bad=false) (hS:∀s,(S s).2.bad=false→(S s).1=(rdVerG N S B).1.state→S' s=S s):rdVerG N' S' B'=rdVerG N S B:=by
 have h':=h
 unfold rdVerG at h'
 obtain ⟨h7,e8⟩:=follows_runs (follows_meta hN hB) _ _ h'
 obtain ⟨h6,e7⟩:=hN _ h7
 have e6:=hS _ h6 rfl
 have h5:=hS0 _ h6
 obtain ⟨h4,e5⟩:=hN _ h5
 obtain ⟨h3,e4⟩:=hN _ h4
 obtain ⟨h2,e3⟩:=hN _ h3
 obtain ⟨h1,e2⟩:=hN _ h2
 obtain ⟨h0,e1⟩:=hN _ h1
 unfold rdVerG
 simp only [e1,e2,e3,e4,e5,e6,e7,e8]
theorem rdB_of {b:List UInt8} {m:Nat} {s:RdA} (h:(rdB b m s).2.bad=false):(readB b s.at' m).2.2=0∧(rdB b m s).1=(readB b s.at' m).1:=by
 unfold rdB at h⊢
 split at h
 ·simp at h
 ·rename_i h1
  rw [if_neg h1]
  exact ⟨by omega,rfl⟩
theorem rdB_most {b:List UInt8} {m m':Nat} {s:RdA} (h:(rdB b m s).2.bad=false) (hl:(rdB b m s).1.length≤m'):rdB b m' s=rdB b m s:=by
 obtain ⟨h1,h2⟩:=rdB_of h
 rw [h2] at hl
 have h3:=readB_limit h1 hl
 unfold rdB
 rw [h3]
theorem readB_len {b:List UInt8} {a m:Nat} : (readB b a m).1.length≤b.length:=by
 unfold readB
 split
 ·simp
 ·split
  ·simp
  ·split
   ·simp
   ·simp only [List.length_take,List.length_drop];omega
theorem read_alike (B:List UInt8):((rdVerG (rdN B) (rdB B 131072) (rdB B B.length)).2.bad=false→rdVerG (rdN' B) (rdB' B B.length) (rdB' B B.length)=rdVerG (rdN B) (rdB B 131072) (rdB B B.length))∧
  ((rdVerG (rdN' B) (rdB' B B.length) (rdB' B B.length)).2.bad=false→(rdVerG (rdN' B) (rdB' B B.length) (rdB' B B.length)).1.state.length≤131072→rdVerG (rdN B) (rdB B 131072) (rdB B B.length)=rdVerG (rdN' B) (rdB' B B.length) (rdB' B B.length)):=by
 constructor
 ·intro h
  refine follows_ver (follows_N B) (follows_B B _) (fun s=>rdB_bad) h ?_
  intro s h1 h2
  have h3:=(follows_B B 131072 s h1).1
  unfold rdB'
  rw [h3]
  refine rdB_most h1 ?_
  rw [(rdB_of h1).2]
  exact readB_len
 ·intro h' hl
  refine follows_ver (follows_N' B) (follows_B' B _) (fun s=>rdB'_bad) h' ?_
  intro s h1 h2
  rw [←h2] at hl
  obtain ⟨h3,h4⟩:=follows_B' B _ s h1
  rw [←h4] at h1 hl⊢
  exact rdB_most h1 hl
theorem okA_state {v:VerA} (h:okA v=true):v.state.length≤131072:=by
 unfold okA headA at h
 simp only [Bool.and_eq_true,decide_eq_true_eq] at h
 exact h.1.1.2
theorem decode_alike (b:List UInt8):decodeA b=decodeR b:=by
 unfold decodeA decodeR
 have hal:=read_alike (readFr b 8).1
 generalize rdVerG (rdN (readFr b 8).1) (rdB (readFr b 8).1 131072) (rdB (readFr b 8).1 (readFr b 8).1.length)=X at hal⊢
 generalize rdVerG (rdN' (readFr b 8).1) (rdB' (readFr b 8).1 (readFr b 8).1.length) (rdB' (readFr b 8).1 (readFr b 8).1.length)=Y at hal⊢
 by_cases h:X.2.bad=false
 ·rw [hal.1 h]
 ·have hx:X.2.bad=true:=by simpa using h
  rw [if_pos hx]
  by_cases h':Y.2.bad=false
  ·have hn:¬(okA Y.1=true∧encodeB Y.1=b):=by
    rintro ⟨hok,-⟩
    apply h
    rw [hal.2 h' (okA_state hok)]
    exact h'
   rw [if_neg hn]
   simp
  ·have hy:Y.2.bad=true:=by simpa using h'
   rw [if_pos hy]
end Go.Proofs.YtgaidmohdhaonaaGreatDoor
