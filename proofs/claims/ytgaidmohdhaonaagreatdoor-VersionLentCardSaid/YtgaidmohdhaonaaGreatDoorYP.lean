/-
  Package strataref2, strataref10, walked: Bytes, out, key.
  Package strataref10, walked: key, run.
  Package strataref10, walked: Check.
-/
import Derived.Test.YtgaidmohdhaonaaGreatDoorYN
import Derived.Test.YtgaidmohdhaonaaGreatDoorYE
import Derived.Test.YtgaidmohdhaonaaGreatDoorYO
import Derived.Test.YtgaidmohdhaonaaGreatDoorYL
import Derived.Test.YtgaidmohdhaonaaGreatDoorYG
set_option linter.unusedVariables false
set_option linter.unusedSimpArgs false
set_option linter.unnecessarySimpa false
set_option linter.unusedSectionVars false
set_option maxRecDepth 100000
set_option maxHeartbeats 12800000
namespace Go.Proofs.YtgaidmohdhaonaaGreatDoor
open Go Go.RowKit
theorem refNumber2_any {w:World} {a b:Int} : Calls Tryz.prog 167 #[.int .i64 a,.int .i64 b] w fun e w'=>e=.returned (.int .i64 (if a<b then -1 else if b<a then 1 else 0))∧w'=w:=by
 by_cases h1:a<b
 ·rw [if_pos h1]
  go_enter Tryz.func167,Tryz.ntmps167
  go_wp2
  go_ret
  exact ⟨rfl,rfl⟩
 ·rw [if_neg h1]
  by_cases h2:b<a
  ·rw [if_pos h2]
   go_enter Tryz.func167,Tryz.ntmps167
   go_wp2
   go_ret
   exact ⟨rfl,rfl⟩
  ·rw [if_neg h2]
   go_enter Tryz.func167,Tryz.ntmps167
   go_wp2
   go_ret
   exact ⟨rfl,rfl⟩
def cmpB:List UInt8→List UInt8→Int
 | [],[]=>0
 | [],_ :: _=>-1
 | _ :: _,[]=>1
 | a :: l,b :: m=>if a.toNat<b.toNat then -1 else if b.toNat<a.toNat then 1 else cmpB l m
theorem cmpB_le:∀a b:List UInt8,decide (0<cmpB a b) = !leL a b
 | [],[]=>rfl
 | [],_ :: _=>rfl
 | _ :: _,[]=>rfl
 | a :: l,b :: m=>by
  rw [cmpB,leL]
  split
  ·rfl
  ·split
   ·rfl
   ·exact cmpB_le l m
theorem cmpB_nil (a b:List UInt8) (h:a=[]∨b=[]):cmpB a b=if a.length<b.length then -1 else if b.length<a.length then 1 else 0:=by
 cases a with
 | nil=>cases b with
  | nil=>rfl
  | cons c d=>simp [cmpB]
 | cons c d=>cases b with
  | nil=>simp [cmpB]
  | cons e f=>simp at h
theorem refBytes2_any {w:World} {v1 v2:Value} {a b:List UInt8} (h1:BAt w v1 a) (h2:BAt w v2 b) :
  Calls Tryz.prog 125 #[v1,v2] w fun e w'=>e=.returned (.int .i64 (cmpB a b))∧Upd (fun _=>False) w w':=by
 have H1:=hid h1;have H2:=hid h2
 obtain ⟨ao,ca,rfl,k1,k2,-,-⟩:=h1
 obtain ⟨bo,cb,rfl,l1,l2,-,-⟩:=h2
 go_enter Tryz.func125,Tryz.ntmps125
 go_wp2
 go_loopw [5] (fun i wr=>∃k:Nat,i=.int .i64 k∧k≤a.length∧k≤b.length∧Upd (fun _=>False) w wr∧cmpB a b=cmpB (a.drop k) (b.drop k)) (fun i _=>a.length-(intOf i).toNat)
 case atStart=>exact ⟨0,rfl,Nat.zero_le _,Nat.zero_le _,Upd.refl _ _,by simp⟩
 case round=>
  obtain ⟨k,rfl,ha,hb,hu,hc⟩:=hrel
  have HU:=hid hu;have HC:=hid hc
  clear hu hc
  by_cases ha2:k<a.length
  ·by_cases hb2:k<b.length
   ·obtain ⟨g1,o1,e1,hg1,d1⟩:=(H1.out.keep HU.out).cell ha2
    obtain ⟨g2,o2,e2,hg2,d2⟩:=(H2.out.keep HU.out).cell hb2
    subst e1
    subst e2
    have Ka:=hid (show cmpB a b=if a[k].toNat<b[k].toNat then -1 else if b[k].toNat<a[k].toNat then 1 else cmpB (a.drop (k+1)) (b.drop (k+1)) from by rw [HC.out,List.drop_eq_getElem_cons ha2,List.drop_eq_getElem_cons hb2,cmpB])
    generalize a[k]=x at d1 Ka
    generalize b[k]=y at d2 Ka
    have hx8:=x.toNat_lt;have hy8:=y.toNat_lt
    have hai:(k:Int)<(a.length:Int):=by omega
    have hbi:(k:Int)<(b.length:Int):=by omega
    by_cases hlt:x.toNat<y.toNat
    ·have HR:=hid (show cmpB a b = -1 from by rw [Ka.out,if_pos hlt])
     have hli:(x.toNat:Int)<(y.toNat:Int):=by omega
     clear hlt
     go_wp2_with fail
     go_quiet (fail)
     go_wp2
     go_ret
     exact ⟨by rw [HR.out];rfl,HU.out.drewN _⟩
    ·have hli:¬(x.toNat:Int)<(y.toNat:Int):=by omega
     by_cases hgt:y.toNat<x.toNat
     ·have HR:=hid (show cmpB a b=1 from by rw [Ka.out,if_neg hlt,if_pos hgt])
      have hgi:(y.toNat:Int)<(x.toNat:Int):=by omega
      clear hlt hgt
      go_wp2_with fail
      go_quiet (fail)
      go_wp2_with fail
      go_quiet (fail)
      go_wp2
      go_ret
      exact ⟨by rw [HR.out];rfl,by first|exact HU.out.drewN _|exact (HU.out.drewN _).drewN _⟩
     ·have HR:=hid (show cmpB a b=cmpB (a.drop (k+1)) (b.drop (k+1)) from by rw [Ka.out,if_neg hlt,if_neg hgt])
      have hgi:¬(y.toNat:Int)<(x.toNat:Int):=by omega
      clear hlt hgt
      go_wp2_with fail
      go_quiet (fail)
      go_wp2_with fail
      go_quiet (fail)
      go_wp2
      go_roundw
      case rel=>exact ⟨k+1,by simp,by omega,by omega,by first|exact HU.out.drewN _|exact (HU.out.drewN _).drewN _,HR.out⟩
      case measure=>simp [intOf];omega
   ·obtain rfl:k=b.length:=by omega
    have HR:=hid (show cmpB a b=if (a.length:Int)<(b.length:Int) then -1 else if (b.length:Int)<(a.length:Int) then 1 else 0 from by
     rw [HC.out,List.drop_eq_nil_of_le (Nat.le_refl _),cmpB_nil _ _ (.inr rfl)]
     simp only [List.length_drop,List.length_nil]
     rw [if_neg (by omega),if_pos (by omega),if_neg (by omega),if_pos (by omega)])
    have HN:=hid (refNumber2_any (w:=wr) (a:=(a.length:Int)) (b:=(b.length:Int)))
    rw [←HR.out] at HN
    have hai:((b.length:Nat):Int)<(a.length:Int):=by omega
    go_wp2_with fail
    refine HN.out.mono ?_
    rintro e w' ⟨rfl,hww⟩
    obtain rfl:=hww.symm
    go_wp2
    go_ret
    exact ⟨rfl,HU.out⟩
  ·obtain rfl:k=a.length:=by omega
   have HR:=hid (show cmpB a b=if (a.length:Int)<(b.length:Int) then -1 else if (b.length:Int)<(a.length:Int) then 1 else 0 from by
    rw [HC.out,List.drop_eq_nil_of_le (Nat.le_refl _),cmpB_nil _ _ (.inl rfl)]
    simp only [List.length_drop,List.length_nil]
    by_cases h:a.length<b.length
    ·rw [if_pos (by omega),if_pos (by omega)]
    ·rw [if_neg (by omega),if_neg (by omega),if_neg (by omega),if_neg (by omega)])
   have HN:=hid (refNumber2_any (w:=wr) (a:=(a.length:Int)) (b:=(b.length:Int)))
   rw [←HR.out] at HN
   go_wp2_with fail
   refine HN.out.mono ?_
   rintro e w' ⟨rfl,hww⟩
   obtain rfl:=hww.symm
   go_wp2
   go_ret
   exact ⟨rfl,HU.out⟩
theorem out10_any {w:World} {n lo hi:Int} : Calls Tryz.prog 55 #[.int .i64 n,.int .i64 lo,.int .i64 hi] w fun e w'=>e=.returned (.bool (!(ins n lo hi)))∧w'=w:=by
 unfold ins
 by_cases h1:lo≤n
 ·by_cases h2:n≤hi
  ·rw [decide_eq_true (And.intro h1 h2),Bool.not_true]
   have g1:¬n<lo:=by omega
   have g2:¬hi<n:=by omega
   clear h1 h2
   go_enter Tryz.func55,Tryz.ntmps55
   go_wp2
   go_ret
   exact ⟨rfl,rfl⟩
  ·rw [decide_eq_false (fun e=>h2 e.2),Bool.not_false]
   have g1:¬n<lo:=by omega
   have g2:hi<n:=by omega
   clear h1 h2
   go_enter Tryz.func55,Tryz.ntmps55
   go_wp2
   go_ret
   exact ⟨rfl,rfl⟩
 ·rw [decide_eq_false (fun e=>h1 e.1),Bool.not_false]
  have g1:n<lo:=by omega
  clear h1
  go_enter Tryz.func55,Tryz.ntmps55
  go_wp2
  go_ret
  exact ⟨rfl,rfl⟩
theorem key10_any {w:World} {v:Value} {b:List UInt8} (hv:BAt w v b) (hl:b.length≤140737488351232) :
  Calls Tryz.prog 124 #[v] w fun e w'=>e=.returned (.bool (isKeyB b))∧Upd (fun _=>False) w w':=by
 have HP:=hid (refParseKey_any hv hl)
 cases hk:isKeyB b
 ·rw [hk] at HP
  clear hk
  go_enter Tryz.func124,Tryz.ntmps124
  go_wp2_with fail
  refine HP.out.mono ?_
  rintro e w1 ⟨x1,x2,x3,x4,x5,x6,x7,x8,x9,x0,rfl,hu⟩
  have HU:=hid (hu.alloc (.cells (entC (.slice x1 x2 x3) x4 (.slice x5 x6 x7) x8 x9 x0) 215))
  clear hu
  go_wp2
  go_ret
  exact ⟨rfl,HU.out⟩
 ·rw [hk] at HP
  clear hk
  go_enter Tryz.func124,Tryz.ntmps124
  go_wp2_with fail
  refine HP.out.mono ?_
  rintro e w1 ⟨x1,x2,x3,x4,x5,x6,x7,x8,x9,x0,rfl,hu⟩
  have HU:=hid (hu.alloc (.cells (entC (.slice x1 x2 x3) x4 (.slice x5 x6 x7) x8 x9 x0) 215))
  clear hu
  go_wp2
  go_ret
  exact ⟨rfl,HU.out⟩
def twin (x:VerA) (i:Nat) (n:Int):Bool:=(x.runs.take i).any fun r=>decide (r.num=n)
def numsOk (x:VerA) (r:MetaA):Bool:=ins r.num 1 (x.next-1)&&decide (1≤r.count)&&ins r.index 0 x.flushed&&ins r.clock 1 x.clock&&ins r.low 0 x.low&&decide (r.low<r.clock)&&ins r.bytes 1 16777216
theorem fitsA_eq (x:VerA) (r:MetaA):fitsA x r=(numsOk x r&&(isKeyB r.first&&(isKeyB r.last&&leL r.first r.last))):=by
 unfold fitsA numsOk
 cases ins r.num 1 (x.next-1)<;>cases decide (1≤r.count)<;>cases ins r.index 0 x.flushed<;>cases ins r.bytes 1 16777216<;>cases ins r.clock 1 x.clock<;>cases ins r.low 0 x.low<;>cases decide (r.low<r.clock)<;>rfl
theorem twin_eq {x:VerA} {i:Nat} {n:Int} : twin x i n=decide (n∈(x.runs.take i).map MetaA.num):=by
 unfold twin
 rw [Bool.eq_iff_iff]
 simp only [List.any_eq_true,decide_eq_true_eq,List.mem_map]
theorem runOkA_split {x:VerA} {k:Nat} (hk:k<x.runs.length):runOkA x k=(!twin x k x.runs[k].num&&(numsOk x x.runs[k]&&((isKeyB x.runs[k].first&&(isKeyB x.runs[k].last&&leL x.runs[k].first x.runs[k].last))&&(decide (k=0) || behindA (x.runs.getD (k-1) zeroMeta) x.runs[k])))):=by
 rw [runOkA_eq hk,twin_eq,fitsA_eq]
 generalize decide (x.runs[k].num∈(x.runs.take k).map MetaA.num)=A
 generalize numsOk x x.runs[k]=B
 generalize (isKeyB x.runs[k].first&&(isKeyB x.runs[k].last&&leL x.runs[k].first x.runs[k].last))=C
 generalize (decide (k=0) || behindA (x.runs.getD (k-1) zeroMeta) x.runs[k])=D
 cases A<;>cases B<;>cases C<;>cases D<;>rfl
theorem refRun_any {w : World} {v : Value} {x : VerA} {k : Nat} (hv : VerAt w v x) (hk : k < x.runs.length) (hn : 1 ≤ x.next ∧ x.next ≤ 1099511627776) (hk64 : x.runs.length ≤ 64) (hl : ∀ r ∈ x.runs, r.first.length ≤ 140737488351232 ∧ r.last.length ≤ 140737488351232) :
    Calls Tryz.prog 56 #[v,.int .i64 k] w fun e w'=>e=.returned (.bool (runOkA x k))∧Upd (fun _=>False) w w':=by
  obtain ⟨s1,d1,s2,d2,rfl,hb1,hb2⟩:=hv
  obtain ⟨ao,cap,e,hcap1,hcap2,hcells⟩:=hb2
  injection e with e1 e2 e3
  subst e1
  subst e3
  clear e2 hb1
  have Kx:=hid ((Upd.refl (fun _=>False) w).alloc (.cells #[.int .i64 x.gen,.int .i64 x.flushed,.int .i64 x.next,.int .i64 x.low,.int .i64 x.clock,.slice s1 x.state.length d1,.slice s2 x.runs.length d2] 25))
  have Kq:=hid (heap_alloc_new w (.cells #[.int .i64 x.gen,.int .i64 x.flushed,.int .i64 x.next,.int .i64 x.low,.int .i64 x.clock,.slice s1 x.state.length d1,.slice s2 x.runs.length d2] 25))
  obtain ⟨b,o,f1,c1,f2,c2,hs2,hb,g0,g1,g2,g3,g4,g5,g6,g7,hB1,hB2⟩:=hcells k hk
  subst hs2
  have Kr:=hid (hl _ (List.getElem_mem hk))
  have Ki:=hid (runOkA_split hk)
  have Ky:=hid hcells
  obtain ⟨r,hr⟩:∃r,r=x.runs[k]:=⟨_,rfl⟩
  rw [←hr] at g0 g1 g2 g3 g4 g5 g6 g7 hB1 hB2 Kr Ki
  have Kz:=hid hB1;have Za:=hid hB2
  obtain ⟨R,hR⟩:∃R,R=runOkA x k:=⟨_,rfl⟩
  rw [←hR] at Ki⊢
  clear hB1 hB2 hr hcells hl hR
  obtain ⟨q,hq⟩:∃q,q=w.heap.size:=⟨_,rfl⟩
  rw [←hq] at Kq
  have HQ:=hid hq
  clear hq
  go_enter Tryz.func56,Tryz.ntmps56
  go_wp2
  rw [←HQ.out]
  have hrow1:=heap_alloc_new (w.alloc (.cells #[.int .i64 x.gen,.int .i64 x.flushed,.int .i64 x.next,.int .i64 x.low,.int .i64 x.clock,.slice s1 x.state.length d1,.slice (some ⟨b,o,none⟩) x.runs.length d2] 25)) (.cells #[.int .i64 r.num,.int .i64 r.count,.int .i64 r.index,.int .i64 r.low,.int .i64 r.clock,.int .i64 r.bytes,.slice f1 r.first.length c1,.slice f2 r.last.length c2] 48)
  have hsz1:(w.alloc (.cells #[.int .i64 x.gen,.int .i64 x.flushed,.int .i64 x.next,.int .i64 x.low,.int .i64 x.clock,.slice s1 x.state.length d1,.slice (some ⟨b,o,none⟩) x.runs.length d2] 25)).heap.size=w.heap.size+1:=by simp
  rw [hsz1,←HQ.out] at hrow1
  have hu1:Upd (fun _=>False) (w.alloc (.cells #[.int .i64 x.gen,.int .i64 x.flushed,.int .i64 x.next,.int .i64 x.low,.int .i64 x.clock,.slice s1 x.state.length d1,.slice (some ⟨b,o,none⟩) x.runs.length d2] 25)) ((w.alloc (.cells #[.int .i64 x.gen,.int .i64 x.flushed,.int .i64 x.next,.int .i64 x.low,.int .i64 x.clock,.slice s1 x.state.length d1,.slice (some ⟨b,o,none⟩) x.runs.length d2] 25)).alloc (.cells #[.int .i64 r.num,.int .i64 r.count,.int .i64 r.index,.int .i64 r.low,.int .i64 r.clock,.int .i64 r.bytes,.slice f1 r.first.length c1,.slice f2 r.last.length c2] 48)):=(Upd.refl _ _).alloc _
  have Kd:=hid (Kx.out.trans hu1 (fun _ _ e=>e))
  have Kj:=hid (hu1.get Kq.out (fun e=>e))
  obtain ⟨b5,hb5⟩:∃b5,b5=q+1:=⟨_,rfl⟩
  have Kh:=hid hrow1
  rw [←hb5] at Kh
  rw [←hb5]
  generalize (w.alloc (.cells #[.int .i64 x.gen,.int .i64 x.flushed,.int .i64 x.next,.int .i64 x.low,.int .i64 x.clock,.slice s1 x.state.length d1,.slice (some ⟨b,o,none⟩) x.runs.length d2] 25)).alloc (.cells #[.int .i64 r.num,.int .i64 r.count,.int .i64 r.index,.int .i64 r.low,.int .i64 r.clock,.int .i64 r.bytes,.slice f1 r.first.length c1,.slice f2 r.last.length c2] 48)=W1 at Kd Kj Kh⊢
  have hbw:b<w.heap.size:=hb
  have Zi:=hid hbw
  clear hrow1 hsz1 hu1 hb5 g0 g1 g2 g3 g4 g5 g6 g7 hb hbw
  go_loopw [6] (fun i wr=>∃j:Nat,i=.int .i64 j∧j≤k∧twin x j r.num=false∧Upd (fun _=>False) W1 wr) (fun i _=>k-(intOf i).toNat)
  case atStart=>exact ⟨0,rfl,Nat.zero_le _,rfl,Upd.refl _ _⟩
  case round=>
    obtain ⟨j,rfl,hj,htw,hu⟩:=hrel
    have HU:=hid hu;have Ks:=hid htw
    clear hu htw
    have v6:=cell_of_row wr q 6 _ _ _ (HU.out.get Kj.out (fun e=>e))
    have hql:q<wr.heap.size:=lt_of_heap (HU.out.get Kj.out (fun e=>e))
    have z0:=cell_of_row wr b5 0 _ _ _ (HU.out.get Kh.out (fun e=>e))
    have hzl:b5<wr.heap.size:=lt_of_heap (HU.out.get Kh.out (fun e=>e))
    have hbl:b<wr.heap.size:=Nat.lt_of_lt_of_le (Nat.lt_of_lt_of_le Zi.out Kd.out.size) HU.out.size
    by_cases hlt:j<k
    · have hjl:j<x.runs.length:=by omega
      obtain ⟨b',o',h1,h2,h3,h4,hs2,hb',g0,-⟩:=Ky.out j hjl
      injection hs2 with hs2
      injection hs2 with hs21 hs22
      subst hs21
      subst hs22
      have u0:=HU.out.cell (Nat.lt_of_lt_of_le hb' Kd.out.size) (Kd.out.cell hb' g0)
      have hjli:(j:Int)<(x.runs.length:Int):=by omega
      have Kt:=hid (show twin x (j+1) r.num=(twin x j r.num || decide (x.runs[j].num=r.num)) from by unfold twin;rw [List.take_succ_eq_append_getElem hjl,List.any_append];simp only [List.any_cons,List.any_nil,Bool.or_false])
      generalize x.runs[j].num=nj at u0 Kt
      clear g0 hb'
      by_cases he:nj=r.num
      · have heb:(nj==r.num)=true:=by simpa using he
        have HF:=hid (show R=false from by
          rw [Ki.out]
          have h9:twin x k r.num=true:=by
            have h8:twin x (j+1) r.num=true:=by rw [Kt.out];simp [he]
            unfold twin at h8⊢
            rw [List.any_eq_true] at h8⊢
            obtain ⟨y,hy,hy2⟩:=h8
            exact ⟨y,(List.take_subset_take_left _ (by omega:j+1≤k)) hy,hy2⟩
          rw [h9];rfl)
        clear he
        go_wp2_with fail
        go_quiet (fail)
        go_wp2
        go_ret
        exact ⟨by rw [HF.out];rfl,Kd.out.trans (HU.out.drewN _) (fun _ _ e=>e)⟩
      · have heb:(nj==r.num)=false:=by simpa using he
        have Zj:=hid (show twin x (j+1) r.num=false from by rw [Kt.out,Ks.out];simp [he])
        clear he
        go_wp2_with fail
        go_quiet (fail)
        go_wp2
        go_roundw
        case rel=>exact ⟨j+1,by simp,by omega,Zj.out,HU.out.drewN _⟩
        case measure=>simp [intOf];omega
    · obtain rfl:j=k:=by omega
      have Ku:=hid (show R=(numsOk x r&&((isKeyB r.first&&(isKeyB r.last&&leL r.first r.last))&&(decide (j=0) || behindA (x.runs.getD (j-1) zeroMeta) r))) from by rw [Ki.out,Ks.out];rfl)
      obtain ⟨W2,rfl⟩:∃W2,W2=wr:=⟨_,rfl⟩
      have Kc:=hid (HU.out.get Kj.out (fun e=>e));have Ka:=hid (HU.out.get Kh.out (fun e=>e))
      have Kv:=hid (Kd.out.trans HU.out (fun _ _ e=>e))
      clear v6 z0 Kj Kh HU Ki Ks Kd Kx Kq
      have v1:=cell_of_row W2 q 1 _ _ _ Kc.out;have v2:=cell_of_row W2 q 2 _ _ _ Kc.out;have v3:=cell_of_row W2 q 3 _ _ _ Kc.out;have v4:=cell_of_row W2 q 4 _ _ _ Kc.out
      have z0:=cell_of_row W2 b5 0 _ _ _ Ka.out;have z1:=cell_of_row W2 b5 1 _ _ _ Ka.out;have z2:=cell_of_row W2 b5 2 _ _ _ Ka.out;have z3:=cell_of_row W2 b5 3 _ _ _ Ka.out;have z4:=cell_of_row W2 b5 4 _ _ _ Ka.out;have z5:=cell_of_row W2 b5 5 _ _ _ Ka.out
      have HW:=hid (fun (W:World) (n lo hi:Int) (h:lo≤n∧n≤hi)=>show Calls Tryz.prog 55 #[.int .i64 n,.int .i64 lo,.int .i64 hi] W fun e w'=>e=.returned (.bool false)∧w'=W from by have h1:=out10_any (w:=W) (n:=n) (lo:=lo) (hi:=hi);rwa [show ins n lo hi=true from by unfold ins;simpa using h] at h1)
      have HN:=hid (fun (W:World) (n lo hi:Int) (h:¬(lo≤n∧n≤hi))=>show Calls Tryz.prog 55 #[.int .i64 n,.int .i64 lo,.int .i64 hi] W fun e w'=>e=.returned (.bool true)∧w'=W from by have h1:=out10_any (w:=W) (n:=n) (lo:=lo) (hi:=hi);rwa [show ins n lo hi=false from by unfold ins;simpa using h] at h1)
      have hsub:IntKind.i64.wrap (x.next-1)=x.next-1:=by rw [IntKind.wrap_i64];omega
      go_upto_region 7 with fail
      go_cut [70] (fun bv wx=>bv=.bool (!numsOk x r)∧wx=W2)
      case first=>
        by_cases h0:1≤r.num∧r.num≤(x.next-1)
        · skip
          by_cases hc:r.count<1
          · skip
            go_wp2_with fail
            refine (HW.out _ _ _ _ h0).mono ?_
            rintro e wn ⟨rfl,hww⟩
            obtain rfl:=hww.symm
            go_wp2
            go_meet
            case rel=>exact ⟨by (try clear hsub);first|(simp [numsOk,ins, *];done)|(simp [numsOk,ins];omega)|(simp [numsOk,ins, *];omega),rfl⟩
          · skip
            by_cases h2:0≤r.index∧r.index≤x.flushed
            · skip
              by_cases h3:1≤r.clock∧r.clock≤x.clock
              · skip
                by_cases h4:0≤r.low∧r.low≤x.low
                · skip
                  by_cases hlc:r.clock≤r.low
                  · skip
                    go_wp2_with fail
                    refine (HW.out _ _ _ _ h0).mono ?_
                    rintro e wn ⟨rfl,hww⟩
                    obtain rfl:=hww.symm
                    go_wp2_with fail
                    refine (HW.out _ _ _ _ h2).mono ?_
                    rintro e wn ⟨rfl,hww⟩
                    obtain rfl:=hww.symm
                    go_wp2_with fail
                    refine (HW.out _ _ _ _ h3).mono ?_
                    rintro e wn ⟨rfl,hww⟩
                    obtain rfl:=hww.symm
                    go_wp2_with fail
                    refine (HW.out _ _ _ _ h4).mono ?_
                    rintro e wn ⟨rfl,hww⟩
                    obtain rfl:=hww.symm
                    go_wp2
                    go_meet
                    case rel=>exact ⟨by (try clear hsub);first|(simp [numsOk,ins, *];done)|(simp [numsOk,ins];omega)|(simp [numsOk,ins, *];omega),rfl⟩
                  · skip
                    by_cases h6:1≤r.bytes∧r.bytes≤16777216
                    · skip
                      go_wp2_with fail
                      refine (HW.out _ _ _ _ h0).mono ?_
                      rintro e wn ⟨rfl,hww⟩
                      obtain rfl:=hww.symm
                      go_wp2_with fail
                      refine (HW.out _ _ _ _ h2).mono ?_
                      rintro e wn ⟨rfl,hww⟩
                      obtain rfl:=hww.symm
                      go_wp2_with fail
                      refine (HW.out _ _ _ _ h3).mono ?_
                      rintro e wn ⟨rfl,hww⟩
                      obtain rfl:=hww.symm
                      go_wp2_with fail
                      refine (HW.out _ _ _ _ h4).mono ?_
                      rintro e wn ⟨rfl,hww⟩
                      obtain rfl:=hww.symm
                      go_wp2_with fail
                      refine (HW.out _ _ _ _ h6).mono ?_
                      rintro e wn ⟨rfl,hww⟩
                      obtain rfl:=hww.symm
                      go_wp2
                      go_meet
                      case rel=>exact ⟨by (try clear hsub);first|(simp [numsOk,ins, *];done)|(simp [numsOk,ins];omega)|(simp [numsOk,ins, *];omega),rfl⟩
                    · skip
                      go_wp2_with fail
                      refine (HW.out _ _ _ _ h0).mono ?_
                      rintro e wn ⟨rfl,hww⟩
                      obtain rfl:=hww.symm
                      go_wp2_with fail
                      refine (HW.out _ _ _ _ h2).mono ?_
                      rintro e wn ⟨rfl,hww⟩
                      obtain rfl:=hww.symm
                      go_wp2_with fail
                      refine (HW.out _ _ _ _ h3).mono ?_
                      rintro e wn ⟨rfl,hww⟩
                      obtain rfl:=hww.symm
                      go_wp2_with fail
                      refine (HW.out _ _ _ _ h4).mono ?_
                      rintro e wn ⟨rfl,hww⟩
                      obtain rfl:=hww.symm
                      go_wp2_with fail
                      refine (HN.out _ _ _ _ h6).mono ?_
                      rintro e wn ⟨rfl,hww⟩
                      obtain rfl:=hww.symm
                      go_wp2
                      go_meet
                      case rel=>exact ⟨by (try clear hsub);first|(simp [numsOk,ins, *];done)|(simp [numsOk,ins];omega)|(simp [numsOk,ins, *];omega),rfl⟩
                · skip
                  go_wp2_with fail
                  refine (HW.out _ _ _ _ h0).mono ?_
                  rintro e wn ⟨rfl,hww⟩
                  obtain rfl:=hww.symm
                  go_wp2_with fail
                  refine (HW.out _ _ _ _ h2).mono ?_
                  rintro e wn ⟨rfl,hww⟩
                  obtain rfl:=hww.symm
                  go_wp2_with fail
                  refine (HW.out _ _ _ _ h3).mono ?_
                  rintro e wn ⟨rfl,hww⟩
                  obtain rfl:=hww.symm
                  go_wp2_with fail
                  refine (HN.out _ _ _ _ h4).mono ?_
                  rintro e wn ⟨rfl,hww⟩
                  obtain rfl:=hww.symm
                  go_wp2
                  go_meet
                  case rel=>exact ⟨by (try clear hsub);first|(simp [numsOk,ins, *];done)|(simp [numsOk,ins];omega)|(simp [numsOk,ins, *];omega),rfl⟩
              · skip
                go_wp2_with fail
                refine (HW.out _ _ _ _ h0).mono ?_
                rintro e wn ⟨rfl,hww⟩
                obtain rfl:=hww.symm
                go_wp2_with fail
                refine (HW.out _ _ _ _ h2).mono ?_
                rintro e wn ⟨rfl,hww⟩
                obtain rfl:=hww.symm
                go_wp2_with fail
                refine (HN.out _ _ _ _ h3).mono ?_
                rintro e wn ⟨rfl,hww⟩
                obtain rfl:=hww.symm
                go_wp2
                go_meet
                case rel=>exact ⟨by (try clear hsub);first|(simp [numsOk,ins, *];done)|(simp [numsOk,ins];omega)|(simp [numsOk,ins, *];omega),rfl⟩
            · skip
              go_wp2_with fail
              refine (HW.out _ _ _ _ h0).mono ?_
              rintro e wn ⟨rfl,hww⟩
              obtain rfl:=hww.symm
              go_wp2_with fail
              refine (HN.out _ _ _ _ h2).mono ?_
              rintro e wn ⟨rfl,hww⟩
              obtain rfl:=hww.symm
              go_wp2
              go_meet
              case rel=>exact ⟨by (try clear hsub);first|(simp [numsOk,ins, *];done)|(simp [numsOk,ins];omega)|(simp [numsOk,ins, *];omega),rfl⟩
        · skip
          go_wp2_with fail
          refine (HN.out _ _ _ _ h0).mono ?_
          rintro e wn ⟨rfl,hww⟩
          obtain rfl:=hww.symm
          go_wp2
          go_meet
          case rel=>exact ⟨by (try clear hsub);first|(simp [numsOk,ins, *];done)|(simp [numsOk,ins];omega)|(simp [numsOk,ins, *];omega),rfl⟩
      case rest=>
        obtain ⟨hv70,hww⟩:=hcut
        obtain rfl:=hww.symm
        obtain ⟨A,hA⟩:∃A,A=numsOk x r:=⟨_,rfl⟩
        rw [←hA] at hv70 Ku
        clear hA v1 v2 v3 v4 z0 z1 z2 z3 z4 z5 HW HN hsub
        cases A
        · simp only [Bool.not_false] at hv70
          subst hv70
          have HF:=hid (show R=false from by rw [Ku.out];rfl)
          go_wp2
          go_ret
          exact ⟨by rw [HF.out];rfl,Kv.out⟩
        · simp only [Bool.not_true] at hv70
          subst hv70
          have Ke:=hid (show R=((isKeyB r.first&&(isKeyB r.last&&leL r.first r.last))&&(decide (j=0) || behindA (x.runs.getD (j-1) zeroMeta) r)) from by rw [Ku.out];rfl)
          have Zb:=hid (key10_any (Kz.out.keep Kv.out) Kr.out.1)
          have z6:=cell_of_row W2 b5 6 _ _ _ Ka.out
          obtain ⟨k1,hk1⟩:∃k1,k1=isKeyB r.first:=⟨_,rfl⟩
          rw [←hk1] at Zb Ke
          clear hk1
          go_wp2_with fail
          refine Zb.out.mono ?_
          rintro e W3 ⟨rfl,hu3⟩
          have Kw:=hid (Kv.out.trans hu3 (fun _ _ e=>e))
          have Zc:=hid (hu3.get Kc.out (fun e=>e));have Kk:=hid (hu3.get Ka.out (fun e=>e))
          clear hu3 z6
          cases k1
          · have HF:=hid (show R=false from by rw [Ke.out];rfl)
            go_wp2
            go_ret
            exact ⟨by rw [HF.out];rfl,Kw.out⟩
          have Zd:=hid (key10_any (Za.out.keep Kw.out) Kr.out.2)
          have z7:=cell_of_row W3 b5 7 _ _ _ Kk.out
          have hzl3:=lt_of_heap Kk.out
          obtain ⟨k2,hk2⟩:∃k2,k2=isKeyB r.last:=⟨_,rfl⟩
          rw [←hk2] at Zd Ke
          clear hk2
          go_wp2_with fail
          refine Zd.out.mono ?_
          rintro e W4 ⟨rfl,hu4⟩
          have Kl:=hid (Kw.out.trans hu4 (fun _ _ e=>e))
          have Ze:=hid (hu4.get Zc.out (fun e=>e));have Kf:=hid (hu4.get Kk.out (fun e=>e))
          clear hu4 z7
          cases k2
          · have HF:=hid (show R=false from by rw [Ke.out];rfl)
            go_wp2
            go_ret
            exact ⟨by rw [HF.out];rfl,Kl.out⟩
          have Zf:=hid (refBytes2_any (Kz.out.keep Kl.out) (Za.out.keep Kl.out))
          have Km:=hid (cmpB_le r.first r.last)
          have z6:=cell_of_row W4 b5 6 _ _ _ Kf.out;have z7:=cell_of_row W4 b5 7 _ _ _ Kf.out
          have hzl4:=lt_of_heap Kf.out
          obtain ⟨cm,hcm⟩:∃cm,cm=cmpB r.first r.last:=⟨_,rfl⟩
          rw [←hcm] at Zf Km
          obtain ⟨le,hle⟩:∃le,le=leL r.first r.last:=⟨_,rfl⟩
          rw [←hle] at Km Ke
          clear hcm hle
          go_wp2_with fail
          refine Zf.out.mono ?_
          rintro e W5 ⟨rfl,hu5⟩
          have Kb:=hid (Kl.out.trans hu5 (fun _ _ e=>e))
          have Kp:=hid (hu5.get Ze.out (fun e=>e));have Kg:=hid (hu5.get Kf.out (fun e=>e))
          clear hu5 z6 z7
          cases le
          · have hcp:(0:Int)<cm:=by have:=Km.out;simpa using this
            have HF:=hid (show R=false from by rw [Ke.out];rfl)
            go_wp2
            go_ret
            exact ⟨by rw [HF.out];rfl,Kb.out⟩
          have hcp:¬(0:Int)<cm:=by have:=Km.out;simpa using this
          have Zg:=hid (show R=(decide (j=0) || behindA (x.runs.getD (j-1) zeroMeta) r) from by rw [Ke.out];rfl)
          by_cases hj0:j=0
          · have hjb:(((j:Nat):Int)==0)=true:=by rw [hj0];rfl
            have HF:=hid (show R=true from by rw [Zg.out,decide_eq_true hj0];rfl)
            clear hj0
            go_wp2
            go_ret
            exact ⟨by rw [HF.out];rfl,Kb.out⟩
          have hjb:(((j:Nat):Int)==0)=false:=by simpa using hj0
          obtain ⟨i,hij⟩:∃i,j=i+1:=⟨j-1,by omega⟩
          have hjk:IntKind.i64.wrap ((j:Int)-1)=(i:Int):=by rw [IntKind.wrap_i64];omega
          have hjk2:(j:Int)-1=(i:Int):=by omega
          have hil:i<x.runs.length:=by omega
          obtain ⟨b',o',y1,e1,y2,e2,hs2,hb',g0,g1,g2,g3,g4,g5,g6,g7,-,-⟩:=Ky.out i hil
          injection hs2 with hs2
          injection hs2 with hs21 hs22
          subst hs21
          subst hs22
          have Zh:=hid (show x.runs.getD (j-1) zeroMeta=x.runs[i] from by rw [hij,Nat.add_sub_cancel];exact getD_at hil)
          obtain ⟨p,hp⟩:∃p,p=x.runs[i]:=⟨_,rfl⟩
          rw [←hp] at g0 g1 g2 g3 g4 g5 g6 g7 Zh
          have u0:=Kb.out.cell hb' g0;have u1:=Kb.out.cell hb' g1;have u2:=Kb.out.cell hb' g2;have u3:=Kb.out.cell hb' g3
          have u4:=Kb.out.cell hb' g4;have u5:=Kb.out.cell hb' g5;have u6:=Kb.out.cell hb' g6;have u7:=Kb.out.cell hb' g7
          have hb5w:b<W5.heap.size:=Nat.lt_of_lt_of_le hb' Kb.out.size
          have v6:=cell_of_row W5 q 6 _ _ _ Kp.out
          have hq5:=lt_of_heap Kp.out
          have z2:=cell_of_row W5 b5 2 _ _ _ Kg.out;have z3:=cell_of_row W5 b5 3 _ _ _ Kg.out;have z4:=cell_of_row W5 b5 4 _ _ _ Kg.out
          have hz5:=lt_of_heap Kg.out
          have Kn:=hid (Kb.out.alloc (.cells #[.int .i64 p.num,.int .i64 p.count,.int .i64 p.index,.int .i64 p.low,.int .i64 p.clock,.int .i64 p.bytes,.slice y1 p.first.length e1,.slice y2 p.last.length e2] 48))
          have Ko:=hid (show R=behindA p r from by rw [Zg.out,Zh.out,decide_eq_false hj0];rfl)
          clear g0 g1 g2 g3 g4 g5 g6 g7 hij hj0 hp hb'
          by_cases q1:r.index<p.index
          · by_cases q2:r.clock≤p.clock
            · by_cases q3:r.low≤p.low
              · have HF:=hid (show R=true from by rw [Ko.out];unfold behindA;simp;omega)
                go_wp2
                go_ret
                exact ⟨by rw [HF.out];rfl,Kn.out⟩
              · have HF:=hid (show R=false from by rw [Ko.out];unfold behindA;simp;omega)
                go_wp2
                go_ret
                exact ⟨by
                       rw [HF.out]
                       have hq3 : decide (r.low ≤ p.low) = false := by simpa using q3
                       show Ending.returned (.bool (decide (r.low ≤ p.low))) = Ending.returned (.bool false)
                       rw [hq3], Kn.out⟩
            · have HF:=hid (show R=false from by rw [Ko.out];unfold behindA;simp;omega)
              go_wp2
              go_ret
              exact ⟨by rw [HF.out];rfl,Kn.out⟩
          · have HF:=hid (show R=false from by rw [Ko.out];unfold behindA;simp;omega)
            go_wp2
            go_ret
            exact ⟨by rw [HF.out];rfl,Kn.out⟩
theorem refCheck10_any {w:World} {v:Value} {x:VerA} (hv:VerAt w v x) (hl:∀r∈x.runs,r.first.length≤140737488351232∧r.last.length≤140737488351232) :
  Calls Tryz.prog 10 #[v] w fun e w'=>e=.returned (.int .i64 (checkA x))∧Upd (fun _=>False) w w':=by
 have HV:=hid hv;have Kj:=hid hl
 obtain ⟨s1,d1,s2,d2,rfl,-,-⟩:=hv
 clear hl
 have HW:=hid (fun (W:World) (n lo hi:Int) (h:lo≤n∧n≤hi)=>show Calls Tryz.prog 55 #[.int .i64 n,.int .i64 lo,.int .i64 hi] W fun e w'=>e=.returned (.bool false)∧w'=W from by have h1:=out10_any (w:=W) (n:=n) (lo:=lo) (hi:=hi);rwa [show ins n lo hi=true from by unfold ins;simpa using h] at h1)
 have HN:=hid (fun (W:World) (n lo hi:Int) (h:¬(lo≤n∧n≤hi))=>show Calls Tryz.prog 55 #[.int .i64 n,.int .i64 lo,.int .i64 hi] W fun e w'=>e=.returned (.bool true)∧w'=W from by have h1:=out10_any (w:=W) (n:=n) (lo:=lo) (hi:=hi);rwa [show ins n lo hi=false from by unfold ins;simpa using h] at h1)
 have Kb:=hid ((Upd.refl (fun _=>False) w).alloc (.cells #[.int .i64 x.gen,.int .i64 x.flushed,.int .i64 x.next,.int .i64 x.low,.int .i64 x.clock,.slice s1 x.state.length d1,.slice s2 x.runs.length d2] 25))
 have Kc:=hid (heap_alloc_new w (.cells #[.int .i64 x.gen,.int .i64 x.flushed,.int .i64 x.next,.int .i64 x.low,.int .i64 x.clock,.slice s1 x.state.length d1,.slice s2 x.runs.length d2] 25))
 go_enter Tryz.func10,Tryz.ntmps10
 go_upto_region 1 with fail
 go_cut [42] (fun b wx=>b=.bool (!headA x)∧wx=(w.alloc (.cells #[.int .i64 x.gen,.int .i64 x.flushed,.int .i64 x.next,.int .i64 x.low,.int .i64 x.clock,.slice s1 x.state.length d1,.slice s2 x.runs.length d2] 25)))
 case first=>
  by_cases h0:1≤x.gen∧x.gen≤1099511627776
  ·skip
   by_cases h1:0≤x.flushed∧x.flushed≤1099511627776
   ·skip
    by_cases h2:1≤x.next∧x.next≤1099511627776
    ·skip
     by_cases h3:1≤x.clock∧x.clock≤1099511627776
     ·skip
      have hsub:IntKind.i64.wrap (x.clock-1)=x.clock-1:=by rw [IntKind.wrap_i64];omega
      by_cases h4:0≤x.low∧x.low≤(x.clock-1)
      ·skip
       by_cases h5:(131072:Int)<(x.state.length:Int)
       ·skip
        go_wp2_with fail
        refine (HW.out _ _ _ _ h0).mono ?_
        rintro e wn ⟨rfl,hww⟩
        subst hww
        go_wp2_with fail
        refine (HW.out _ _ _ _ h1).mono ?_
        rintro e wn ⟨rfl,hww⟩
        subst hww
        go_wp2_with fail
        refine (HW.out _ _ _ _ h2).mono ?_
        rintro e wn ⟨rfl,hww⟩
        subst hww
        go_wp2_with fail
        refine (HW.out _ _ _ _ h3).mono ?_
        rintro e wn ⟨rfl,hww⟩
        subst hww
        go_wp2_with fail
        refine (HW.out _ _ _ _ h4).mono ?_
        rintro e wn ⟨rfl,hww⟩
        subst hww
        go_wp2
        go_meet
        case rel=>exact ⟨by (try clear hsub);first|(simp [headA,ins, *];done)|(simp [headA,ins];omega)|(simp [headA,ins, *];omega),rfl⟩
       ·skip
        by_cases h6:(64:Int)<(x.runs.length:Int)
        ·skip
         go_wp2_with fail
         refine (HW.out _ _ _ _ h0).mono ?_
         rintro e wn ⟨rfl,hww⟩
         subst hww
         go_wp2_with fail
         refine (HW.out _ _ _ _ h1).mono ?_
         rintro e wn ⟨rfl,hww⟩
         subst hww
         go_wp2_with fail
         refine (HW.out _ _ _ _ h2).mono ?_
         rintro e wn ⟨rfl,hww⟩
         subst hww
         go_wp2_with fail
         refine (HW.out _ _ _ _ h3).mono ?_
         rintro e wn ⟨rfl,hww⟩
         subst hww
         go_wp2_with fail
         refine (HW.out _ _ _ _ h4).mono ?_
         rintro e wn ⟨rfl,hww⟩
         subst hww
         go_wp2
         go_meet
         case rel=>exact ⟨by (try clear hsub);first|(simp [headA,ins, *];done)|(simp [headA,ins];omega)|(simp [headA,ins, *];omega),rfl⟩
        ·skip
         go_wp2_with fail
         refine (HW.out _ _ _ _ h0).mono ?_
         rintro e wn ⟨rfl,hww⟩
         subst hww
         go_wp2_with fail
         refine (HW.out _ _ _ _ h1).mono ?_
         rintro e wn ⟨rfl,hww⟩
         subst hww
         go_wp2_with fail
         refine (HW.out _ _ _ _ h2).mono ?_
         rintro e wn ⟨rfl,hww⟩
         subst hww
         go_wp2_with fail
         refine (HW.out _ _ _ _ h3).mono ?_
         rintro e wn ⟨rfl,hww⟩
         subst hww
         go_wp2_with fail
         refine (HW.out _ _ _ _ h4).mono ?_
         rintro e wn ⟨rfl,hww⟩
         subst hww
         have Kk:=hid (show headA x=true from by unfold headA ins;simp only [Bool.and_eq_true,decide_eq_true_eq];exact ⟨⟨⟨⟨⟨⟨h0,h1⟩,h2⟩,h3⟩,h4⟩,by omega⟩,by omega⟩)
         go_wp2
         go_meet
         case rel=>exact ⟨by rw [Kk.out];simp;omega,rfl⟩
      ·skip
       go_wp2_with fail
       refine (HW.out _ _ _ _ h0).mono ?_
       rintro e wn ⟨rfl,hww⟩
       subst hww
       go_wp2_with fail
       refine (HW.out _ _ _ _ h1).mono ?_
       rintro e wn ⟨rfl,hww⟩
       subst hww
       go_wp2_with fail
       refine (HW.out _ _ _ _ h2).mono ?_
       rintro e wn ⟨rfl,hww⟩
       subst hww
       go_wp2_with fail
       refine (HW.out _ _ _ _ h3).mono ?_
       rintro e wn ⟨rfl,hww⟩
       subst hww
       go_wp2_with fail
       refine (HN.out _ _ _ _ h4).mono ?_
       rintro e wn ⟨rfl,hww⟩
       subst hww
       go_wp2
       go_meet
       case rel=>exact ⟨by (try clear hsub);first|(simp [headA,ins, *];done)|(simp [headA,ins];omega)|(simp [headA,ins, *];omega),rfl⟩
     ·skip
      go_wp2_with fail
      refine (HW.out _ _ _ _ h0).mono ?_
      rintro e wn ⟨rfl,hww⟩
      subst hww
      go_wp2_with fail
      refine (HW.out _ _ _ _ h1).mono ?_
      rintro e wn ⟨rfl,hww⟩
      subst hww
      go_wp2_with fail
      refine (HW.out _ _ _ _ h2).mono ?_
      rintro e wn ⟨rfl,hww⟩
      subst hww
      go_wp2_with fail
      refine (HN.out _ _ _ _ h3).mono ?_
      rintro e wn ⟨rfl,hww⟩
      subst hww
      go_wp2
      go_meet
      case rel=>exact ⟨by (try clear hsub);first|(simp [headA,ins, *];done)|(simp [headA,ins];omega)|(simp [headA,ins, *];omega),rfl⟩
    ·skip
     go_wp2_with fail
     refine (HW.out _ _ _ _ h0).mono ?_
     rintro e wn ⟨rfl,hww⟩
     subst hww
     go_wp2_with fail
     refine (HW.out _ _ _ _ h1).mono ?_
     rintro e wn ⟨rfl,hww⟩
     subst hww
     go_wp2_with fail
     refine (HN.out _ _ _ _ h2).mono ?_
     rintro e wn ⟨rfl,hww⟩
     subst hww
     go_wp2
     go_meet
     case rel=>exact ⟨by (try clear hsub);first|(simp [headA,ins, *];done)|(simp [headA,ins];omega)|(simp [headA,ins, *];omega),rfl⟩
   ·skip
    go_wp2_with fail
    refine (HW.out _ _ _ _ h0).mono ?_
    rintro e wn ⟨rfl,hww⟩
    subst hww
    go_wp2_with fail
    refine (HN.out _ _ _ _ h1).mono ?_
    rintro e wn ⟨rfl,hww⟩
    subst hww
    go_wp2
    go_meet
    case rel=>exact ⟨by (try clear hsub);first|(simp [headA,ins, *];done)|(simp [headA,ins];omega)|(simp [headA,ins, *];omega),rfl⟩
  ·skip
   go_wp2_with fail
   refine (HN.out _ _ _ _ h0).mono ?_
   rintro e wn ⟨rfl,hww⟩
   subst hww
   go_wp2
   go_meet
   case rel=>exact ⟨by (try clear hsub);first|(simp [headA,ins, *];done)|(simp [headA,ins];omega)|(simp [headA,ins, *];omega),rfl⟩
 case rest=>
  obtain ⟨hv42,hcw⟩:=hcut
  subst hcw
  obtain ⟨B,hB⟩:∃B,B = !headA x:=⟨_,rfl⟩
  rw [←hB] at hv42
  subst hv42
  cases B
  rotate_left
  ·skip
   have HR:=hid (checkA_head (by simpa using hB.symm))
   clear hB
   go_wp2
   go_ret
   exact ⟨by rw [HR.out];rfl,Kb.out⟩
  have hh:headA x=true:=by simpa using hB.symm
  have HH:=hid hh
  have Kd:=hid (headA_of hh)
  clear hh hB HW HN
  obtain ⟨q,hq⟩:∃q,q=w.heap.size:=⟨_,rfl⟩
  rw [←hq] at Kc⊢
  generalize w.alloc (.cells #[.int .i64 x.gen,.int .i64 x.flushed,.int .i64 x.next,.int .i64 x.low,.int .i64 x.clock,.slice s1 x.state.length d1,.slice s2 x.runs.length d2] 25)=W0 at Kb Kc⊢
  clear hq
  go_wp2
  go_loopw [3] (fun i wr=>∃k:Nat,i=.int .i64 k∧k≤x.runs.length∧Upd (fun _=>False) W0 wr∧∀j<k,runOkA x j=true) (fun i _=>x.runs.length-(intOf i).toNat)
  case atStart=>exact ⟨0,rfl,Nat.zero_le _,Upd.refl _ _,fun j hj=>absurd hj (by omega)⟩
  case round=>
   obtain ⟨k,rfl,hk,hup,hok⟩:=hrel
   have Kl:=hid hup;have Kg:=hid hok
   have Ke:=hid (Kb.out.trans hup (fun _ _ e=>e))
   have hrq:=hup.get Kc.out (fun e=>e)
   obtain ⟨⟨v0,v1,v2,v3,v4,v5,v6⟩,-,hql⟩:(wr.cell? ⟨q,0,none⟩=some (.int .i64 x.gen)∧wr.cell? ⟨q,1,none⟩=some (.int .i64 x.flushed)∧wr.cell? ⟨q,2,none⟩=some (.int .i64 x.next)∧wr.cell? ⟨q,3,none⟩=some (.int .i64 x.low)∧wr.cell? ⟨q,4,none⟩=some (.int .i64 x.clock)∧wr.cell? ⟨q,5,none⟩=some (.slice s1 x.state.length d1)∧wr.cell? ⟨q,6,none⟩=some (.slice s2 x.runs.length d2))∧True∧q<wr.heap.size:=
    ⟨⟨cell_of_row _ _ 0 _ _ _ hrq,cell_of_row _ _ 1 _ _ _ hrq,cell_of_row _ _ 2 _ _ _ hrq,cell_of_row _ _ 3 _ _ _ hrq,cell_of_row _ _ 4 _ _ _ hrq,cell_of_row _ _ 5 _ _ _ hrq,cell_of_row _ _ 6 _ _ _ hrq⟩,trivial,lt_of_heap hrq⟩
   have hk64:k≤64:=by have:=Kd.out.2.2;omega
   clear hup hok hrq
   by_cases hlt:k<x.runs.length
   ·have Ka:=hid (refRun_any (HV.out.keep Ke.out) hlt Kd.out.1 Kd.out.2.2 Kj.out)
    obtain ⟨R,hR⟩:∃R,R=runOkA x k:=⟨_,rfl⟩
    rw [←hR] at Ka
    have Kh:=hid hR
    clear hR
    cases R
    ·have HR:=hid (checkA_run hlt Kh.out.symm)
     go_wp2_with fail
     refine Ka.out.mono ?_
     rintro e w2 ⟨rfl,hu2⟩
     have Kf:=hid (Ke.out.trans hu2 (fun _ _ e=>e))
     clear hu2
     go_wp2
     go_ret
     exact ⟨by rw [HR.out];rfl,Kf.out⟩
    ·have Ki:=hid (show ∀j<k+1,runOkA x j=true from by
      intro j hj
      rcases Nat.lt_succ_iff_lt_or_eq.1 hj with h|rfl
      ·exact Kg.out j h
      ·exact Kh.out.symm)
     go_wp2_with fail
     refine Ka.out.mono ?_
     rintro e w2 ⟨rfl,hu2⟩
     have Kf:=hid (Kl.out.trans hu2 (fun _ _ e=>e))
     clear hu2 v0 v1 v2 v3 v4 v5 v6 hql
     go_wp2
     go_roundw
     case rel=>exact ⟨k+1,by simp,by omega,Kf.out,Ki.out⟩
     case measure=>simp [intOf];omega
   ·obtain rfl:k=x.runs.length:=by omega
    have HR:=hid (checkA_ok HH.out Kg.out)
    go_wp2
    go_ret
    exact ⟨by rw [HR.out];rfl,Ke.out⟩
theorem eight_high (n:Nat) (h:n<4294967296):((eightB n).drop 4).take 4=highB n:=by
 simp [eightB,highB]
theorem refFrame_any {w:World} {v:Value} {b:List UInt8} (hv:BAt w v b) (hl:b.length≤1048576) :
  Calls Tryz.prog 139 #[v] w fun e w'=>∃v',e=.returned (.tuple #[v',.int .i64 0])∧NewB w w' v' (frameB b):=by
 have HV:=hid hv
 obtain ⟨ao,cap,rfl,h1,h2,-,-⟩:=hv
 obtain ⟨n,hn⟩:∃n,n=b.length:=⟨_,rfl⟩
 have Ka:=hid hn
 have HE:=hid (refEight_any (w:=w) (n:=n) (by omega))
 have hni:¬(1048576:Int)<(n:Int):=by omega
 rw [←hn] at h1 hl⊢
 clear hn
 go_enter Tryz.func139,Tryz.ntmps139
 go_wp2_with fail
 refine HE.out.mono ?_
 rintro e w1 ⟨v1,rfl,hn1⟩
 have Kd:=hid hn1
 obtain ⟨x1,y1,hv1,hc8,hc9⟩:=hn1.shape
 have h8:(eightB n).length=8:=rfl
 rw [h8] at hv1 hc8
 subst hv1
 obtain ⟨g,o,rfl⟩:∃g o,x1=some ⟨g,o,none⟩:=by
  obtain ⟨_,_,e,-,-,-,h⟩:=hn1.data.bat
  injection e with e1 _ _
  subst e1
  obtain ⟨g,o,e,-⟩:=h 0 (by rw [h8];omega)
  exact ⟨g,o,e⟩
 have hb4:=hn1.data.bat.sub (lo:=4) (n:=4) (by rw [h8];omega)
 rw [eight_high n (by omega)] at hb4
 have Ke:=hid hb4
 have i1:¬y1=4:=by omega
 have hpt:=refPart_any (b:=highB n) (ao:=some ⟨g,o+4,none⟩) (cap:=y1-4) hb4 (lo:=0) (hi:=4) (by omega) (by simp [highB]) (by simp [highB])
 rw [show (((highB n).drop 0).take (4-0))=highB n from rfl] at hpt
 have Kf:=hid hpt
 have i2:(4:Int)≤(y1:Int):=by omega
 clear hn1 hb4 hpt hc8
 go_wp2_with fail
 refine Kf.out.mono ?_
 rintro e w2 ⟨v2,rfl,hn2⟩
 have Kg:=hid (hn2.rebase Kd.out.upd)
 obtain ⟨x2,y2,hv2,-,-⟩:=hn2.shape
 have h4:(highB n).length=4:=rfl
 rw [h4] at hv2
 subst hv2
 have Kh:=hid (refSealed_any (Ke.out.keep hn2.upd) (by simp [highB]))
 clear hn2 h4
 go_wp2_with fail
 refine Kh.out.mono ?_
 rintro e w3 ⟨v3,rfl,hn3⟩
 obtain ⟨x3,y3,hv3,-,-⟩:=hn3.shape
 have h4:(lowB (crc (highB n))).length=4:=rfl
 obtain ⟨x4,L4,y4,w4,hr4,hn4⟩:=(Kg.out.keep hn3.upd).glue hn3.data.bat (by simp [highB,lowB])
 rw [h4] at hv3
 subst hv3
 have Ki:=hid hr4;have Kb:=hid hn4
 clear hn3 hr4 hn4 h4
 go_upto_region 5 with (at_builtin;refine wpList_append_run rfl _ _ _ rfl rfl rfl Ki.out ?_)
 obtain ⟨x5,L5,y5,w5,hr5,hn5⟩:=Kb.out.glue (HV.out.keep Kb.out.upd) (by simp [highB,lowB];have:=Ka.out;omega)
 rw [←Ka.out] at hr5
 have Kj:=hid hr5;have Kc:=hid hn5
 clear hr5 hn5
 go_upto_region 6 with (at_builtin;refine wpList_append_run rfl _ _ _ rfl rfl rfl Kj.out ?_)
 have hsb:=refSealed_any (HV.out.keep Kc.out.upd) (by have:=Ka.out;omega)
 rw [←Ka.out] at hsb
 have Kk:=hid hsb
 clear hsb
 go_wp2_with fail
 refine Kk.out.mono ?_
 rintro e w6 ⟨v6,rfl,hn6⟩
 obtain ⟨x6,y6,hv6,-,-⟩:=hn6.shape
 have h4:(lowB (crc b)).length=4:=rfl
 obtain ⟨x7,L7,y7,w7,hr7,hn7⟩:=(Kc.out.keep hn6.upd).glue hn6.data.bat (by simp [highB,lowB];have:=Ka.out;omega)
 rw [h4] at hv6
 subst hv6
 have Kl:=hid hr7
 have HF:=hid (show NewB w w7 (.slice x7 L7 y7) (frameB b) from by unfold frameB;rw [←Ka.out];exact hn7)
 clear hn6 hr7 hn7 h4
 go_wp2_with (at_builtin;refine wpList_append_run rfl _ _ _ rfl rfl rfl Kl.out ?_)
 go_ret2
 exact ⟨_,rfl,HF.out⟩
theorem refUints_any {w:World} {a n:Nat} {nums:List Int} (hnn:nums.length=n) (hn:n≤1000) (ha:a<w.heap.size) (hc:∀j (hj:j<nums.length),w.cell? ⟨a,j,none⟩=some (.int .i64 nums[j])) :
  Calls Tryz.prog 137 #[.slice (some ⟨a,0,none⟩) n n] w fun e w'=>∃v,e=.returned v∧NewB w w' v (uintsB nums):=by
 have HC:=hid hc;have Ka:=hid hnn
 clear hc hnn
 go_enter Tryz.func137,Tryz.ntmps137
 go_wp2
 go_loopw [3,4] (fun bv iv wr=>∃k:Nat,iv=.int .i64 k∧k≤n∧∃ao L cap,bv=.slice ao L cap∧NewB w wr (.slice ao L cap) (uintsB (nums.take k))) (fun _ iv _=>n-(intOf iv).toNat)
 case atStart=>exact ⟨0,rfl,Nat.zero_le _,none,0,0,rfl,by simpa [uintsB] using NewB.nil w⟩
 case round=>
  obtain ⟨k,rfl,hk,ao,L,cap,rfl,hnew⟩:=hrel
  have HN:=hid hnew
  clear hnew
  by_cases hlt:k<n
  ·have hlt':k<nums.length:=by have:=Ka.out;omega
   have hcell:wr.cell? ⟨a,k,none⟩=some (.int .i64 nums[k]):=HN.out.upd.cell ha (HC.out k hlt')
   have haw:a<wr.heap.size:=Nat.lt_of_lt_of_le ha HN.out.upd.size
   have HT:=hid (show uintsB (nums.take (k+1))=uintsB (nums.take k)++uintB (nums[k]%18446744073709551616).toNat from by rw [List.take_succ_eq_append_getElem hlt',uintsB_snoc])
   have htl:=uintsB_len (nums.take k)
   have hkl:(nums.take k).length≤k:=by simp;omega
   obtain ⟨y,hy⟩:∃y,y=nums[k]:=⟨_,rfl⟩
   rw [←hy] at hcell HT
   have hxe:(((y%18446744073709551616).toNat:Nat):Int)=y%18446744073709551616:=by omega
   have hul:=uintB_len 9 (y%18446744073709551616).toNat (by omega)
   have hu:=refUint_any (w:=wr) (n:=(y%18446744073709551616).toNat) (by omega)
   rw [hxe] at hu
   have HU:=hid hu
   have Kb:=hid (show (uintsB (nums.take k)).length+(uintB (y%18446744073709551616).toNat).length≤140737488355328 from by omega)
   clear hy hxe hul hu htl hkl hlt'
   go_wp2_with fail
   refine HU.out.mono ?_
   rintro e w1 ⟨v1,rfl,hn1⟩
   obtain ⟨a2,L2,c2,w2,hr2,hn2⟩:=(HN.out.keep hn1.upd).glue hn1.data.bat Kb.out
   obtain ⟨x1,y1,hv1,-,-⟩:=hn1.shape
   obtain ⟨l1,hl1⟩:∃l1,l1=(uintB (y%18446744073709551616).toNat).length:=⟨_,rfl⟩
   rw [←hl1] at hv1
   subst hv1
   have Kc:=hid hr2;have Kd:=hid hn2
   clear hr2 hn2 hn1 hl1 hcell haw
   go_wp2_with (at_builtin;refine wpList_append_run rfl _ _ _ rfl rfl rfl Kc.out ?_)
   go_roundw
   case rel=>exact ⟨k+1,by simp,by omega,a2,L2,c2,rfl,by rw [HT.out];exact Kd.out⟩
   case measure=>simp [intOf];omega
  ·obtain rfl:k=n:=by omega
   have HF:=hid (show NewB w wr (.slice ao L cap) (uintsB nums) from by have h:=HN.out;rw [←Ka.out,List.take_length] at h;exact h)
   go_wp2
   go_ret
   exact ⟨_,rfl,HF.out⟩
theorem uints_row {W:World} (nums:List Int) (n:Nat) (hnn:nums.length=n) (hn:n≤1000) (C:Array Value) (hC:C=(nums.map (Value.int .i64)).toArray) (a:Nat) (ha:a=W.heap.size) :
  Calls Tryz.prog 137 #[.slice (some ⟨a,0,none⟩) n n] (W.alloc (.cells C 3)) fun e w'=>∃x l y,e=.returned (.slice x l y)∧Hid (NewB W w' (.slice x l y) (uintsB nums)):=by
 subst ha
 have hrow:=heap_alloc_new W (.cells C 3)
 refine (refUints_any hnn hn (lt_of_heap hrow) (fun j hj=>?_)).mono ?_
 ·rw [cell_of_row _ _ j _ _ _ hrow,hC]
  simp [List.getElem?_eq_getElem hj]
 ·rintro e w' ⟨v,rfl,hn2⟩
  obtain ⟨x,y,hv,-,-⟩:=hn2.shape
  exact ⟨x,_,y,by rw [hv],by rw [←hv];exact hn2.rebase ((Upd.refl _ _).alloc _)⟩
theorem own_ty {w w1 w2:World} {v s:Value} {bs:List UInt8} {j:Nat} {cs:Array Value} (h:NewB w w2 s bs) (hu:Upd (fun k=>v.ownBlock=some k) w1 w2) (hr:w1.heap[j]? = some (.cells cs 48 (0,0))) (hv:¬v.ownBlock=some j) (hs:s.ownBlock=some j):False:=by
 have h2:=hu.get hr hv
 rcases h.data with ⟨rfl,-⟩|⟨g,cap,cur,rfl,hg,-⟩
 ·cases hs
 ·simp only [Value.ownBlock,Option.some.injEq] at hs
  subst hs
  exact not_ty h2 (by decide) _ _ hg
theorem bytes10 {w:World} {v:Value} {b:List UInt8} (hv:BAt w v b) (hl:b.length≤140737488351232) :
  Calls Tryz.prog 138 #[v] w fun e w'=>∃x l y,e=.returned (.slice x l y)∧Hid (NewB w w' (.slice x l y) (bytesB b)):=by
 refine (refBytes_any hv hl).mono ?_
 rintro e w' ⟨v',rfl,hn⟩
 obtain ⟨x,y,hv,-,-⟩:=hn.shape
 exact ⟨x,_,y,by rw [hv],by rw [←hv];exact hn⟩
theorem refEncode_bad {w:World} {v:Value} {x:VerA} (hv:VerAt w v x) (hl:∀r∈x.runs,r.first.length≤140737488351232∧r.last.length≤140737488351232) (hb:okA x=false) :
  Calls Tryz.prog 83 #[v] w fun e w'=>e=.returned (.tuple #[.slice none 0 0,.int .i64 101])∧Upd (fun _=>False) w w':=by
 have HV:=hid hv
 obtain ⟨s1,d1,s2,d2,rfl,-,-⟩:=hv
 have HU:=hid ((Upd.refl (fun _=>False) w).alloc (.cells #[.int .i64 x.gen,.int .i64 x.flushed,.int .i64 x.next,.int .i64 x.low,.int .i64 x.clock,.slice s1 x.state.length d1,.slice s2 x.runs.length d2] 25))
 have HC:=hid (refCheck10_any (HV.out.keep HU.out) hl)
 rw [show checkA x=101 from by unfold checkA;rw [hb];rfl] at HC
 clear hb hl
 go_enter Tryz.func83,Tryz.ntmps83
 go_wp2_with fail
 refine HC.out.mono ?_
 rintro e w2 ⟨rfl,hu2⟩
 have Ka:=hid (HU.out.trans hu2 (fun _ _ e=>e))
 clear hu2
 go_wp2
 go_ret2
 exact ⟨rfl,Ka.out⟩
theorem refEncode_any {w:World} {v:Value} {x:VerA} (hv:VerAt w v x) (hb:okA x=true) :
  Calls Tryz.prog 83 #[v] w fun e w'=>∃v',e=.returned (.tuple #[v',.int .i64 0])∧NewB w w' v' (encodeB x):=by
 have HV:=hid hv
 have Kf:=hid (body_len hb)
 have Kc:=hid (headA_of (okA_head hb))
 obtain ⟨s1,d1,s2,d2,rfl,hst,hrs⟩:=hv
 have Zk:=hid hst;have Zl:=hid hrs
 have HU:=hid ((Upd.refl (fun _=>False) w).alloc (.cells #[.int .i64 x.gen,.int .i64 x.flushed,.int .i64 x.next,.int .i64 x.low,.int .i64 x.clock,.slice s1 x.state.length d1,.slice s2 x.runs.length d2] 25))
 have HC:=hid (refCheck10_any (HV.out.keep HU.out) (fun r hr=>by have:=Kf.out.2 r hr;omega))
 have Kk:=hid (heap_alloc_new w (.cells #[.int .i64 x.gen,.int .i64 x.flushed,.int .i64 x.next,.int .i64 x.low,.int .i64 x.clock,.slice s1 x.state.length d1,.slice s2 x.runs.length d2] 25))
 rw [show checkA x=0 from by unfold checkA;rw [hb];rfl] at HC
 have Km:=hid (bytesB_len x.state (by have:=Kc.out.2.1;omega))
 have Kn:=hid (uintsB_len [x.gen,x.flushed,x.next,x.low,x.clock])
 have Ks:=hid (uintsB_len [(x.runs.length:Int)])
 obtain ⟨p,hp⟩:∃p,p=w.heap.size:=⟨_,rfl⟩
 rw [←hp] at Kk
 have HP:=hid hp
 clear hb hp hst hrs
 go_enter Tryz.func83,Tryz.ntmps83
 go_wp2_with fail
 refine HC.out.mono ?_
 rintro e W1 ⟨rfl,hu2⟩
 rw [←HP.out]
 have Kg:=hid (HU.out.trans hu2 (fun _ _ e=>e))
 have Ka:=hid (hu2.get Kk.out (fun e=>e))
 have hpl:p<W1.heap.size:=lt_of_heap Ka.out
 have v0:=cell_of_row W1 p 0 _ _ _ Ka.out;have v1:=cell_of_row W1 p 1 _ _ _ Ka.out;have v2:=cell_of_row W1 p 2 _ _ _ Ka.out;have v3:=cell_of_row W1 p 3 _ _ _ Ka.out;have v4:=cell_of_row W1 p 4 _ _ _ Ka.out
 clear hu2
 have Zm:=hid (uints_row (W:=W1) [x.gen,x.flushed,x.next,x.low,x.clock] 5 rfl (by omega) #[.int .i64 x.gen,.int .i64 x.flushed,.int .i64 x.next,.int .i64 x.low,.int .i64 x.clock] rfl W1.heap.size rfl)
 go_wp2_with fail
 refine Zm.out.mono ?_
 rintro e W2 ⟨x2,l2,y2,rfl,hn2⟩
 have Zn:=hid hn2.out
 have hr2:=hn2.out.upd.get Ka.out (fun e=>e)
 have v5:=cell_of_row W2 p 5 _ _ _ hr2
 have hpl2:=lt_of_heap hr2
 have HB:=hid (bytes10 (w:=W2) (Zk.out.keep (Kg.out.trans hn2.out.upd (fun _ _ e=>e))) (by have:=Kc.out.2.1;omega))
 clear hn2 hr2 v0 v1 v2 v3 v4 hpl
 go_wp2_with fail
 refine HB.out.mono ?_
 rintro e W3 ⟨x3,l3,y3,rfl,hn3⟩
 obtain ⟨x4,l4,y4,W4,hr4,hn4⟩:=(Zn.out.keep hn3.out.upd).glue hn3.out.data.bat (by have:=Km.out;have:=Kn.out;have:=Kc.out.2.1;simp at *;omega)
 have Zo:=hid hr4;have Kt:=hid hn4
 clear hn3 hr4 hn4 v5 hpl2
 go_upto_region 6 with (at_builtin;refine wpList_append_run rfl _ _ _ rfl rfl rfl Zo.out ?_)
 have hr4b:=Kt.out.upd.get Ka.out (fun e=>e)
 have v6:=cell_of_row W4 p 6 _ _ _ hr4b
 have hpl4:=lt_of_heap hr4b
 obtain ⟨a4,ha4⟩:∃a4,a4=W4.heap.size:=⟨_,rfl⟩
 have Zp:=hid (uints_row (W:=W4) [(x.runs.length:Int)] 1 rfl (by omega) #[.int .i64 (x.runs.length:Int)] rfl a4 ha4)
 have Zq:=hid ha4
 clear hr4b ha4
 go_wp2_with fail
 rw [←Zq.out]
 refine Zp.out.mono ?_
 rintro e W5 ⟨x5,l5,y5,rfl,hn5⟩
 obtain ⟨x6,l6,y6,W6,hr6,hn6⟩:=(Kt.out.keep hn5.out.upd).glue hn5.out.data.bat (by have:=Km.out;have:=Kn.out;have:=Ks.out;have:=Kc.out.2.1;simp at *;omega)
 obtain ⟨PRE,hPRE⟩:∃PRE,PRE=uintsB [x.gen,x.flushed,x.next,x.low,x.clock]++bytesB x.state++uintsB [(x.runs.length:Int)]:=⟨_,rfl⟩
 rw [←hPRE] at hn6
 have Ku:=hid (show PRE.length≤140000 from by rw [hPRE];have:=Km.out;have:=Kn.out;have:=Ks.out;have:=Kc.out.2.1;simp at *;omega)
 have Kv:=hid hPRE
 have Zr:=hid hr6;have Zs:=hid hn6
 clear hn5 hr6 hn6 v6 hpl4 hPRE
 go_upto_region 7 with (at_builtin;refine wpList_append_run rfl _ _ _ rfl rfl rfl Zr.out ?_)
 obtain ⟨n,hn⟩:∃n,n=x.runs.length:=⟨_,rfl⟩
 have Ko:=hid hn
 have hn64:n≤64:=by have:=Kc.out.2.2;omega
 clear hn
 go_wp2
 go_loopw [5,6] (fun bv i wr=>∃k:Nat,i=.int .i64 k∧k≤n∧∃ao L cap,bv=.slice ao L cap∧NewB W1 wr (.slice ao L cap) (PRE++((x.runs.take k).map metaB).flatten)) (fun _ i _=>n-(intOf i).toNat)
 case atStart=>exact ⟨0,rfl,Nat.zero_le _,_,_,_,rfl,by simpa using Zs.out⟩
 case round=>
  obtain ⟨k,rfl,hk,ao,L,cap,rfl,hnw⟩:=hrel
  obtain ⟨wo,rfl⟩:∃wo,wo=wr:=⟨_,rfl⟩
  have Kd:=hid hnw
  have Kw:=hid (metas_len (x.runs.take k) (fun r hr=>Kf.out.2 r (List.mem_of_mem_take hr)))
  have Kx:=hid (show (x.runs.take k).length≤64 from by simp;have:=Kc.out.2.2;omega)
  have hrw:=hnw.upd.get Ka.out (fun e=>e)
  have v6:=cell_of_row wo p 6 _ _ _ hrw
  have hplw:=lt_of_heap hrw
  rw [←Ko.out] at v6
  clear hnw
  by_cases hlt:k<n
  ·have hlt':k<x.runs.length:=by have:=Ko.out;omega
   obtain ⟨ao0,cap0,e,hc1,hc2,hcells⟩:=Zl.out
   obtain ⟨b,o,f1,c1,f2,c2,ha,hb,g0,g1,g2,g3,g4,g5,g6,g7,hB1,hB2⟩:=hcells k hlt'
   injection e with e1 e2 e3
   subst e1
   subst e3
   subst ha
   clear e2 hcells
   have Ky:=hid (show ((x.runs.take (k+1)).map metaB).flatten=((x.runs.take k).map metaB).flatten++metaB x.runs[k] from by rw [List.take_succ_eq_append_getElem hlt',List.map_append,List.flatten_append];simp only [List.map_cons,List.map_nil,List.flatten_cons,List.flatten_nil,List.append_nil])
   have Ke:=hid (Kf.out.2 _ (List.getElem_mem hlt'))
   obtain ⟨r,hr⟩:∃r,r=x.runs[k]:=⟨_,rfl⟩
   rw [←hr] at g0 g1 g2 g3 g4 g5 g6 g7 hB1 hB2 Ky Ke
   have Kz:=hid (bytesB_len r.first (by have:=Ke.out;omega));have Zt:=hid (bytesB_len r.last (by have:=Ke.out;omega))
   have Za:=hid (uintsB_len [r.num,r.count,r.index,r.low,r.clock,r.bytes])
   have Kb:=hid (Kg.out.trans Kd.out.upd (fun _ _ e=>e))
   have u0:=Kb.out.cell hb g0;have u1:=Kb.out.cell hb g1;have u2:=Kb.out.cell hb g2;have u3:=Kb.out.cell hb g3
   have u4:=Kb.out.cell hb g4;have u5:=Kb.out.cell hb g5;have u6:=Kb.out.cell hb g6;have u7:=Kb.out.cell hb g7
   have hbw:b<wo.heap.size:=Nat.lt_of_lt_of_le hb Kb.out.size
   have Zu:=hid ((Upd.refl (fun _=>False) wo).alloc (.cells #[.int .i64 r.num,.int .i64 r.count,.int .i64 r.index,.int .i64 r.low,.int .i64 r.clock,.int .i64 r.bytes,.slice f1 r.first.length c1,.slice f2 r.last.length c2] 48))
   have Kh:=hid (heap_alloc_new wo (.cells #[.int .i64 r.num,.int .i64 r.count,.int .i64 r.index,.int .i64 r.low,.int .i64 r.clock,.int .i64 r.bytes,.slice f1 r.first.length c1,.slice f2 r.last.length c2] 48))
   have Zb:=hid hB1;have Zc:=hid hB2
   obtain ⟨b8,hb8⟩:∃b8,b8=wo.heap.size:=⟨_,rfl⟩
   rw [←hb8] at Kh
   have Kp:=hid hb8
   have Zv:=hid (uints_row (W:=wo.alloc (.cells #[.int .i64 r.num,.int .i64 r.count,.int .i64 r.index,.int .i64 r.low,.int .i64 r.clock,.int .i64 r.bytes,.slice f1 r.first.length c1,.slice f2 r.last.length c2] 48)) [r.num,r.count,r.index,r.low,r.clock,r.bytes] 6 rfl (by omega) #[.int .i64 r.num,.int .i64 r.count,.int .i64 r.index,.int .i64 r.low,.int .i64 r.clock,.int .i64 r.bytes] rfl (b8+1) (by rw [hb8];simp))
   clear hB1 hB2 hr hb8 hc1 hc2
   go_wp2_with fail
   rw [←Kp.out]
   refine Zv.out.mono ?_
   rintro e V1 ⟨x7,l7,y7,rfl,hn7⟩
   have Zd:=hid (Zu.out.trans hn7.out.upd (fun _ _ e=>e))
   obtain ⟨x8,l8,y8,V2,hr8,hn8,hu8⟩:=(Kd.out.keep Zd.out).glue2 hn7.out.data.bat (by have:=Ku.out;have:=Kw.out;have:=Kx.out;have:=Za.out;simp only [List.length_append,List.length_cons,List.length_nil] at *;omega)
   have hro1:=hn7.out.upd.get Kh.out (fun e=>e)
   obtain ⟨ACC,hACC⟩:∃ACC,ACC=PRE++((x.runs.take k).map metaB).flatten++uintsB [r.num,r.count,r.index,r.low,r.clock,r.bytes]:=⟨_,rfl⟩
   have Ze:=hid (show ACC.length≤300000 from by rw [hACC];have:=Ku.out;have:=Kw.out;have:=Kx.out;have:=Za.out;simp only [List.length_append,List.length_cons,List.length_nil] at *;omega)
   rw [←hACC] at hn8
   have Zf:=hid hACC
   have Kq:=hid hr8;have Kj:=hid hn8
   have Zg:=hid (show ∀j,(Value.slice x8 l8 y8).ownBlock=some j→j≠b8 from fun j e hj=>by subst hj;exact own_ty hn8 hu8 hro1 (fun e=>by have h1:=Kd.out.lt j e;have h2:=Kp.out;omega) e)
   have Ki:=hid (hu8.get hro1 (fun e=>by have h1:=Kd.out.lt b8 e;have h2:=Kp.out;omega))
   clear hn7 hr8 hn8 hu8 hro1 hACC g0 g1 g2 g3 g4 g5 g6 g7 u0 u1 u2 u3 u4 u5 u6 u7 hb hbw v6 hplw hrw
   go_upto_region 12 with (at_builtin;refine wpList_append_run rfl _ _ _ rfl rfl rfl Kq.out ?_)
   have Zw:=hid (bytes10 (w:=V2) (Zb.out.keep (Kg.out.trans Kj.out.upd (fun _ _ e=>e))) (by have:=Ke.out;omega))
   have z6:=cell_of_row V2 b8 6 _ _ _ Ki.out
   have hz6:=lt_of_heap Ki.out
   go_wp2_with fail
   refine Zw.out.mono ?_
   rintro e V3 ⟨x9,l9,y9,rfl,hn9⟩
   obtain ⟨xa,la,ya,V4,hra,hna,hua⟩:=(Kj.out.keep hn9.out.upd).glue2 hn9.out.data.bat (by have:=Ze.out;have:=Kz.out;have:=Ke.out;omega)
   have Kl:=hid (hua.get (hn9.out.upd.get Ki.out (fun e=>e)) (fun e=>Zg.out b8 e rfl))
   have Zx:=hid hra;have Zh:=hid hna
   clear hn9 hra hna hua z6 hz6
   go_upto_region 13 with (at_builtin;refine wpList_append_run rfl _ _ _ rfl rfl rfl Zx.out ?_)
   have Zi:=hid (bytes10 (w:=V4) (Zc.out.keep (Kg.out.trans Zh.out.upd (fun _ _ e=>e))) (by have:=Ke.out;omega))
   have z7:=cell_of_row V4 b8 7 _ _ _ Kl.out
   have hz7:=lt_of_heap Kl.out
   go_wp2_with fail
   refine Zi.out.mono ?_
   rintro e V5 ⟨xb,lb,yb,rfl,hnb⟩
   obtain ⟨xc,lc,yc,V6,hrc,hnc⟩:=(Zh.out.keep hnb.out.upd).glue hnb.out.data.bat (by rw [List.length_append];have:=Ze.out;have:=Kz.out;have:=Zt.out;have:=Ke.out;omega)
   have Zy:=hid hrc
   have Zj:=hid (show NewB W1 V6 (.slice xc lc yc) (PRE++((x.runs.take (k+1)).map metaB).flatten) from by
    have e:PRE++((x.runs.take (k+1)).map metaB).flatten=ACC++bytesB r.first++bytesB r.last:=by rw [Ky.out,Zf.out];unfold metaB;simp only [List.append_assoc]
    rw [e];exact hnc)
   clear hnb hrc hnc z7 hz7
   go_wp2_with (at_builtin;refine wpList_append_run rfl _ _ _ rfl rfl rfl Zy.out ?_)
   go_roundw
   case rel=>exact ⟨k+1,by simp,by omega,xc,lc,yc,rfl,Zj.out⟩
   case measure=>simp [intOf];omega
  ·obtain rfl:k=n:=by omega
   have Kr:=hid (show PRE++((x.runs.take k).map metaB).flatten=bodyB x from by rw [Kv.out,Ko.out,List.take_length];unfold bodyB;simp only [List.append_assoc])
   rw [Kr.out] at Kd
   have Zz:=hid (refFrame_any Kd.out.data.bat (by have:=Kf.out.1;omega))
   go_wp2_with fail
   refine Zz.out.mono ?_
   rintro e W7 ⟨v7,rfl,hn7⟩
   have hu7:Upd (fun _=>False) w W7:=(Kg.out.trans Kd.out.upd (fun _ _ e=>e)).trans hn7.upd (fun _ _ e=>e)
   have hfl:(frameB (bodyB x)).length≤400000:=by rw [frameB_length];have:=Kf.out.1;omega
   have hf0:0<(frameB (bodyB x)).length:=by rw [frameB_length];omega
   obtain ⟨ao8,L8,cap8,w8,hr8,hn8⟩:=grow_lit hu7 magicB (8,9) ((hn7.data.bat).keep ((Upd.refl (fun _=>False) W7).alloc _)) hf0 (by simp only [magicB,List.length_cons,List.length_nil];omega)
   obtain ⟨x7,y7,hv7,-,-⟩:=hn7.shape
   obtain ⟨L7,hL7⟩:∃L,L=(frameB (bodyB x)).length:=⟨_,rfl⟩
   rw [←hL7] at hv7
   subst hv7
   have hr8':(Builtin.append_ #[22,22] 22 #[.slice (some ⟨W7.heap.size,0,none⟩) 8 8,.slice x7 L7 y7]).run Tryz.prog (W7.alloc (.cells #[.int .u8 83,.int .u8 84,.int .u8 82,.int .u8 65,.int .u8 84,.int .u8 65,.int .u8 45,.int .u8 77] 5 (8,9)))=.ok (.slice ao8 L8 cap8) w8:=hr8
   have Kq:=hid hr8'
   have Kj:=hid (show NewB w w8 (.slice ao8 L8 cap8) (encodeB x) from hn8)
   have kc:=fun (w:World) (C:Array Value) (n c:Nat)=>Lib.run_convert_bytes_const (P:=Tryz.prog) w 22 5 C n c Tryz.underlying22 Tryz.underlying5
   clear hr8 hr8' hn8 hf0 hfl hL7 hn7 hu7 v6 hplw hrw
   go_wp2_with (at_builtin;refine wpList_append_run rfl _ _ _ rfl rfl rfl Kq.out ?_)
   go_ret2
   exact ⟨_,rfl,Kj.out⟩
end Go.Proofs.YtgaidmohdhaonaaGreatDoor
