/-
  The document's disk in memory, alike to a plain one: Arm, Crash, Flip, Append of any bytes.
-/
import Derived.Test.YtgaidmohdhaonaaGreatDoorSX
import Derived.Test.YtgaidmohdhaonaaGreatDoorRI
import Derived.Test.YtgaidmohdhaonaaGreatDoorRF
import Derived.Test.YtgaidmohdhaonaaGreatDoorGE
import Derived.Test.YtgaidmohdhaonaaGreatDoorZA
import Derived.Test.YtgaidmohdhaonaaGreatDoorSB
import Derived.Test.YtgaidmohdhaonaaGreatDoorRA
import Derived.Test.YtgaidmohdhaonaaGreatDoorYT
import Derived.Test.YtgaidmohdhaonaaGreatDoorSU
import Derived.Test.YtgaidmohdhaonaaGreatDoorYK
set_option linter.unusedVariables false
set_option linter.unusedSimpArgs false
set_option linter.unnecessarySimpa false
set_option linter.unusedSectionVars false
set_option maxRecDepth 100000
set_option maxHeartbeats 3200000
namespace Go.Proofs.YtgaidmohdhaonaaGreatDoor
open Go Go.RowKit
section
variable {w:World} {r:RS} {a:DiskA}
end
end Go.Proofs.YtgaidmohdhaonaaGreatDoor
namespace Go.Proofs.YtgaidmohdhaonaaGreatDoor
open Go Go.ChangeShapes Go.WideShapes Go.ChangeAt Go.RowKit
open Go.ChangeMaps (open_string shut_string)
section
variable {H:Type} {enc:TypeId×Value→H} {W:World} {base:Nat}
end
end Go.Proofs.YtgaidmohdhaonaaGreatDoor
namespace Go.Proofs.YtgaidmohdhaonaaGreatDoor
open Go Go.RowKit
theorem Strs.at' {w W:World} {v:Value} {l:List ByteArray} (h:Strs w W v l):StrsAt W v l:=by
 obtain ⟨ao,c,e,h1,h2⟩:=h.shape
 refine ⟨ao,c,e,h1,h2,fun k hk=>?_⟩
 obtain ⟨g,c',e',hg,hc⟩:=h.at hk
 rw [e] at e'
 injection e' with e1 _ _
 exact ⟨g,0,e1,hg,by rw [Nat.zero_add];exact hc⟩
theorem sameNames_yes {w:World} {v1 v2:Value} {l:List ByteArray} (h1:StrsAt w v1 l) (h2:StrsAt w v2 l) :
  Calls Tryz.prog 103 #[v1,v2] w fun e w'=>e=.returned (.bool true)∧Upd (fun _=>False) w w':=by
 obtain ⟨a1,c1,rfl,hc1,hm1,hs1⟩:=h1
 obtain ⟨a2,c2,rfl,hc2,hm2,hs2⟩:=h2
 have S1:=hid hs1;have S2:=hid hs2
 clear hs1 hs2
 obtain ⟨L,hL⟩:∃L,L=l.length:=⟨_,rfl⟩
 have HL:=hid hL
 rw [←hL] at hc1 hc2⊢
 clear hL
 have hb:((L:Int) != (L:Int))=false:=by simp
 go_enter Tryz.func103,Tryz.ntmps103
 go_wp2
 go_loopw [5] (fun i wr=>∃k:Nat,k≤L∧i=.int .i64 k∧Upd (fun _=>False) w wr) (fun i _=>L-(intOf i).toNat)
 case atStart=>exact ⟨0,Nat.zero_le _,rfl,Upd.refl _ _⟩
 case round=>
  obtain ⟨k,hk,rfl,hup⟩:=hrel
  have Ka:=hid hup
  clear hup
  by_cases hlt:k<L
  ·have hkl:k<l.length:=by have:=HL.out;omega
   obtain ⟨g1,o1,rfl,hg1,d1⟩:=S1.out k hkl
   obtain ⟨g2,o2,rfl,hg2,d2⟩:=S2.out k hkl
   obtain ⟨f,hf⟩:∃f,f=l[k]:=⟨_,rfl⟩
   rw [←hf] at d1 d2
   have d1':=Ka.out.cell hg1 d1
   have d2':=Ka.out.cell hg2 d2
   have hq:(f.toList==f.toList)=true:=by simp
   have hwr:=Ka.out.size
   clear d1 d2 hf hkl
   go_wp2_with fail
   go_quiet (fail)
   go_wp2
   go_roundw
   case rel=>exact ⟨k+1,by omega,by go_num,Ka.out.drewN _⟩
   case measure=>simp [intOf];omega
  ·obtain rfl:k=L:=by omega
   go_wp2
   go_ret
   exact ⟨rfl,Ka.out⟩
theorem sameFiles10_any {w:World} {b1 b2:Nat} {v1 v2:Value} {l1 l2:List FV} (h1:FilesAt w b1 v1 l1) (h2:FilesAt w b2 v2 l2) :
  Calls Tryz.prog 52 #[v1,v2] w fun e w'=>∃b,e=.returned (.bool b)∧(b=true↔l1.map FV.abs=l2.map FV.abs)∧Upd (fun _=>False) w w':=by
 obtain ⟨a1,c1,rfl,hc1,hm1,hs1⟩:=h1.shape
 obtain ⟨a2,c2,rfl,hc2,hm2,hs2⟩:=h2.shape
 have H1:=hid h1;have H2:=hid h2;have S1:=hid hs1;have S2:=hid hs2
 have hm1':l1.length≤9223372036854775807:=Nat.le_trans hc1 (by simpa [maxLen] using hm1)
 have hm2':l2.length≤9223372036854775807:=Nat.le_trans hc2 (by simpa [maxLen] using hm2)
 clear h1 h2 hs1 hs2
 by_cases hl:¬l1.length=l2.length
 ·have hb:((l1.length:Int) != (l2.length:Int))=true:=by simp;omega
  have HL:=hid hl
  clear hl
  go_enter Tryz.func52,Tryz.ntmps52
  go_wp2
  go_ret
  exact ⟨false,rfl,⟨(fun h=>by cases h),fun h=>absurd (by simpa using congrArg List.length h) HL.out⟩,Upd.refl _ _⟩
 have hl:l1.length=l2.length:=by omega
 have hb:((l1.length:Int) != (l2.length:Int))=false:=by simp [hl]
 have HL:=hid hl
 clear hl
 go_enter Tryz.func52,Tryz.ntmps52
 go_wp2
 go_loopw [5] (fun i wr=>∃k:Nat,k≤l1.length∧i=.int .i64 k∧(∀j (h1:j<l1.length) (h2:j<l2.length),j<k→l1[j].abs=l2[j].abs)∧Upd (fun _=>False) w wr) (fun i _=>l1.length-(intOf i).toNat)
 case atStart=>exact ⟨0,Nat.zero_le _,rfl,by simp,Upd.refl _ _⟩
 case round=>
  obtain ⟨k,hk,rfl,heq,hup⟩:=hrel
  have Kc:=hid heq;have Ka:=hid hup
  clear heq hup
  by_cases hlt:k<l1.length
  ·have hlt2:k<l2.length:=by have:=HL.out;omega
   obtain ⟨g1,rfl,hg1,hg1',d0,d1,d2⟩:=S1.out k hlt
   obtain ⟨g2,rfl,hg2,hg2',e0,e1,e2⟩:=S2.out k hlt2
   have hby1:=(H1.out.data l1[k] (List.getElem_mem hlt)).bat
   have hby2:=(H2.out.data l2[k] (List.getElem_mem hlt2)).bat
   have lt1:=(H1.out.data l1[k] (List.getElem_mem hlt)).lt
   have lt2:=(H2.out.data l2[k] (List.getElem_mem hlt2)).lt
   obtain ⟨p1,q1,hv1,-⟩:=(H1.out.data l1[k] (List.getElem_mem hlt)).shape
   obtain ⟨p2,q2,hv2,-⟩:=(H2.out.data l2[k] (List.getElem_mem hlt2)).shape
   obtain ⟨f1,hf1⟩:∃f,f=l1[k]:=⟨_,rfl⟩
   obtain ⟨f2,hf2⟩:∃f,f=l2[k]:=⟨_,rfl⟩
   rw [←hf1] at d0 d1 d2 hby1 lt1 hv1
   rw [←hf2] at e0 e1 e2 hby2 lt2 hv2
   have d0':wr.cell? ⟨g1,k*3,none⟩=some (.string f1.name):=by rw [World.cell?_of_block (w:=w) (Ka.out.block g1 hg1' (fun h=>h))];exact d0
   have d1':wr.cell? ⟨g1,k*3+1,none⟩=some (.slice p1 f1.data.length q1):=by rw [World.cell?_of_block (w:=w) (Ka.out.block g1 hg1' (fun h=>h))];exact d1.trans (by rw [hv1])
   have d2':wr.cell? ⟨g1,k*3+2,none⟩=some (.int .i64 f1.synced):=by rw [World.cell?_of_block (w:=w) (Ka.out.block g1 hg1' (fun h=>h))];exact d2
   have e0':wr.cell? ⟨g2,k*3,none⟩=some (.string f2.name):=by rw [World.cell?_of_block (w:=w) (Ka.out.block g2 hg2' (fun h=>h))];exact e0
   have e1':wr.cell? ⟨g2,k*3+1,none⟩=some (.slice p2 f2.data.length q2):=by rw [World.cell?_of_block (w:=w) (Ka.out.block g2 hg2' (fun h=>h))];exact e1.trans (by rw [hv2])
   have e2':wr.cell? ⟨g2,k*3+2,none⟩=some (.int .i64 f2.synced):=by rw [World.cell?_of_block (w:=w) (Ka.out.block g2 hg2' (fun h=>h))];exact e2
   have hsame:∀n,Calls Tryz.prog 23 #[.slice p1 f1.data.length q1,.slice p2 f2.data.length q2] (wr.drewN n) fun e w'=>e=.returned (.bool (decide (f1.data=f2.data)))∧w'=wr.drewN n:=by
    intro n
    have b1:=hby1.keep (Ka.out.drewN n)
    have b2:=hby2.keep (Ka.out.drewN n)
    rw [hv1] at b1
    rw [hv2] at b2
    exact lawSame_any b1 b2
   have Kd:=hid hsame
   have hq:=beq_toList f1.name f2.name
   have F1:=hid hf1;have F2:=hid hf2
   clear d0 d1 d2 e0 e1 e2 hby1 hby2 lt1 lt2 hv1 hv2 hsame hf1 hf2
   have hwr:=Ka.out.size
   by_cases hn:f1.name=f2.name
   ·have hq':(f1.name.toList==f2.name.toList)=true:=by rw [hq];simpa using hn
    by_cases hs:f1.synced=f2.synced
    ·have hs':((f1.synced:Int) != (f2.synced:Int))=false:=by simp [hs]
     by_cases hd:f1.data=f2.data
     ·have Kb:=hid (fun n=>(Kd.out n).mono (fun e w' h=>(show e=.returned (.bool true)∧w'=wr.drewN n from ⟨h.1.trans (by simp [hd]),h.2⟩)))
      have HE:=hid (show f1.abs=f2.abs by unfold FV.abs;rw [hn,hs,hd])
      clear hq hn hs hd
      go_wp2_with fail
      go_quiet ((go_at_call 23;exact Calls.quiet_of_same (Kb.out _)))
      go_wp2
      go_roundw
      case rel=>
       refine ⟨k+1,by omega,by go_num,fun j h1 h2 hj=>?_,Ka.out.drewN _⟩
       by_cases hjk:j<k
       ·exact Kc.out j h1 h2 hjk
       ·obtain rfl:j=k:=by omega
        rw [←F1.out,←F2.out];exact HE.out
      case measure=>simp [intOf];omega
     ·have Kb:=hid (fun n=>(Kd.out n).mono (fun e w' h=>(show e=.returned (.bool false)∧w'=wr.drewN n from ⟨h.1.trans (by simp [hd]),h.2⟩)))
      have HE:=hid (show f1.abs≠f2.abs by intro h;exact hd (congrArg FileA.data h))
      clear hq hn hs hd
      go_wp2_with fail
      go_quiet ((go_at_call 23;exact Calls.quiet_of_same (Kb.out _)))
      go_wp2
      go_ret
      exact ⟨false,rfl,⟨(fun h=>by cases h),fun h=>absurd h (map_abs_ne hlt hlt2 (by rw [←F1.out,←F2.out];exact HE.out))⟩,Ka.out.drewN _⟩
    ·have hs':((f1.synced:Int) != (f2.synced:Int))=true:=by simp;omega
     have HE:=hid (show f1.abs≠f2.abs by intro h;exact hs (congrArg FileA.synced h))
     clear hq hn hs
     go_wp2_with fail
     go_quiet (fail)
     go_wp2
     go_ret
     exact ⟨false,rfl,⟨(fun h=>by cases h),fun h=>absurd h (map_abs_ne hlt hlt2 (by rw [←F1.out,←F2.out];exact HE.out))⟩,Ka.out.drewN _⟩
   ·have hq':(f1.name.toList==f2.name.toList)=false:=by rw [hq];simpa using hn
    have HE:=hid (show f1.abs≠f2.abs by intro h;exact hn (congrArg FileA.name h))
    clear hq hn
    go_wp2_with fail
    go_quiet (fail)
    go_wp2
    go_ret
    exact ⟨false,rfl,⟨(fun h=>by cases h),fun h=>absurd h (map_abs_ne hlt hlt2 (by rw [←F1.out,←F2.out];exact HE.out))⟩,Ka.out.drewN _⟩
  ·obtain rfl:k=l1.length:=by omega
   go_wp2
   go_ret
   exact ⟨true,rfl,⟨fun _=>map_abs_eq HL.out (fun j h1 h2=>Kc.out j h1 h2 h1),fun _=>rfl⟩,Ka.out⟩
end Go.Proofs.YtgaidmohdhaonaaGreatDoor
