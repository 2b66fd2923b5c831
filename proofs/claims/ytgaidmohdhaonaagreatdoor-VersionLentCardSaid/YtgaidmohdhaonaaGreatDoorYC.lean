/-
  Package cell, walked: outside, Check, flag.
  Package cell, walked: flag, Key.
  Package cell, walked: parse.
-/
import Derived.Test.YtgaidmohdhaonaaGreatDoorYA
import Derived.Deep.RegionHeld3
import Derived.Laws.ResultCell
set_option linter.unusedVariables false
set_option linter.unusedSimpArgs false
set_option linter.unnecessarySimpa false
set_option linter.unusedSectionVars false
set_option maxRecDepth 100000
set_option maxHeartbeats 12800000
namespace Go.Proofs.YtgaidmohdhaonaaGreatDoor
open Go Go.RowKit
theorem cell_out {w:World} {n lo hi:Int} (h:n<lo∨hi<n):Calls Tryz.prog 234 #[.int .i64 n,.int .i64 lo,.int .i64 hi] w fun e w'=>e=.returned (.bool true)∧w'=w:=by
 by_cases h1:n<lo
 ·clear h
  go_enter Tryz.func234,Tryz.ntmps234
  go_wp2
  go_ret
  exact ⟨rfl,rfl⟩
 ·have h2:hi<n:=h.resolve_left h1
  clear h
  go_enter Tryz.func234,Tryz.ntmps234
  go_wp2
  go_ret
  exact ⟨rfl,rfl⟩
theorem cell_in {w:World} {n lo hi:Int} (h:¬(n<lo∨hi<n)):Calls Tryz.prog 234 #[.int .i64 n,.int .i64 lo,.int .i64 hi] w fun e w'=>e=.returned (.bool false)∧w'=w:=by
 have h1:¬n<lo:=fun e=>h (.inl e)
 have h2:¬hi<n:=fun e=>h (.inr e)
 clear h
 go_enter Tryz.func234,Tryz.ntmps234
 go_wp2
 go_ret
 exact ⟨rfl,rfl⟩
def EntIs (v:Value) (e:EntA):Prop:=
 ∃a1 c1 a2 c2,v=.agg #[.slice a1 e.row.length c1,.int .i64 e.fam,.slice a2 e.qual.length c2,.int .i64 e.ts,.int .i64 e.seq,.int .i64 e.kind,.slice none 0 0]
theorem check_any {w:World} {v:Value} {e:EntA} (hv:EntIs v e) :
  Calls Tryz.prog 225 #[v] w fun x w'=>x=.returned (.int .i64 e.bad)∧Upd (fun _=>False) w w':=by
 obtain ⟨a1,c1,a2,c2,rfl⟩:=hv
 have HU:=hid ((Upd.refl (fun _=>False) w).alloc (.cells #[.slice a1 e.row.length c1,.int .i64 e.fam,.slice a2 e.qual.length c2,.int .i64 e.ts,.int .i64 e.seq,.int .i64 e.kind,.slice none 0 0] 215))
 obtain ⟨R,hR⟩:∃R,R=e.bad:=⟨_,rfl⟩
 rw [←hR]
 unfold EntA.bad at hR
 obtain ⟨row,fam,qual,ts,seq,kind⟩:=e
 simp only at hR HU⊢
 generalize row.length=nr at hR HU⊢
 generalize qual.length=nq at hR HU⊢
 by_cases h1:nr<1∨256<nr
 ·rw [if_pos h1] at hR
  have Ka:=hid (cell_out (w:=(w.alloc (.cells #[.slice a1 nr c1,.int .i64 fam,.slice a2 nq c2,.int .i64 ts,.int .i64 seq,.int .i64 kind,.slice none 0 0] 215))) (n:=(nr:Int)) (lo:=1) (hi:=256) (by omega))
  have HF:=hid hR
  clear hR
  go_enter Tryz.func225,Tryz.ntmps225
  go_wp2_with fail
  refine Ka.out.mono ?_
  rintro x w' ⟨rfl,hww⟩
  subst hww
  go_wp2
  go_ret
  exact ⟨by rw [HF.out];rfl,HU.out⟩
 ·rw [if_neg h1] at hR
  by_cases h2:fam<0∨7<fam
  ·rw [if_pos h2] at hR
   have Ka:=hid (cell_in (w:=(w.alloc (.cells #[.slice a1 nr c1,.int .i64 fam,.slice a2 nq c2,.int .i64 ts,.int .i64 seq,.int .i64 kind,.slice none 0 0] 215))) (n:=(nr:Int)) (lo:=1) (hi:=256) (by omega))
   have Kb:=hid (cell_out (w:=(w.alloc (.cells #[.slice a1 nr c1,.int .i64 fam,.slice a2 nq c2,.int .i64 ts,.int .i64 seq,.int .i64 kind,.slice none 0 0] 215))) (n:=fam) (lo:=0) (hi:=7) (by omega))
   have HF:=hid hR
   clear hR
   go_enter Tryz.func225,Tryz.ntmps225
   go_wp2_with fail
   refine Ka.out.mono ?_
   rintro x w' ⟨rfl,hww⟩
   subst hww
   go_wp2_with fail
   refine Kb.out.mono ?_
   rintro x w' ⟨rfl,hww⟩
   subst hww
   go_wp2
   go_ret
   exact ⟨by rw [HF.out];rfl,HU.out⟩
  ·rw [if_neg h2] at hR
   by_cases h3:256<nq∨(kind=5∧0<nq)
   ·rw [if_pos h3] at hR
    by_cases g1:256<nq
    ·have g1i:(256:Int)<(nq:Int):=by omega
     have Ka:=hid (cell_in (w:=(w.alloc (.cells #[.slice a1 nr c1,.int .i64 fam,.slice a2 nq c2,.int .i64 ts,.int .i64 seq,.int .i64 kind,.slice none 0 0] 215))) (n:=(nr:Int)) (lo:=1) (hi:=256) (by omega))
     have Kb:=hid (cell_in (w:=(w.alloc (.cells #[.slice a1 nr c1,.int .i64 fam,.slice a2 nq c2,.int .i64 ts,.int .i64 seq,.int .i64 kind,.slice none 0 0] 215))) (n:=fam) (lo:=0) (hi:=7) (by omega))
     have HF:=hid hR
     clear hR
     go_enter Tryz.func225,Tryz.ntmps225
     go_wp2_with fail
     refine Ka.out.mono ?_
     rintro x w' ⟨rfl,hww⟩
     subst hww
     go_wp2_with fail
     refine Kb.out.mono ?_
     rintro x w' ⟨rfl,hww⟩
     subst hww
     go_wp2
     go_ret
     exact ⟨by rw [HF.out];rfl,HU.out⟩
    ·have g1i:¬(256:Int)<(nq:Int):=by omega
     obtain ⟨g2,g3⟩:=h3.resolve_left g1
     have g3i:(0:Int)<(nq:Int):=by omega
     subst g2
     have Ka:=hid (cell_in (w:=(w.alloc (.cells #[.slice a1 nr c1,.int .i64 fam,.slice a2 nq c2,.int .i64 ts,.int .i64 seq,.int .i64 5,.slice none 0 0] 215))) (n:=(nr:Int)) (lo:=1) (hi:=256) (by omega))
     have Kb:=hid (cell_in (w:=(w.alloc (.cells #[.slice a1 nr c1,.int .i64 fam,.slice a2 nq c2,.int .i64 ts,.int .i64 seq,.int .i64 5,.slice none 0 0] 215))) (n:=fam) (lo:=0) (hi:=7) (by omega))
     clear h3
     have HF:=hid hR
     clear hR
     go_enter Tryz.func225,Tryz.ntmps225
     go_wp2_with fail
     refine Ka.out.mono ?_
     rintro x w' ⟨rfl,hww⟩
     subst hww
     go_wp2_with fail
     refine Kb.out.mono ?_
     rintro x w' ⟨rfl,hww⟩
     subst hww
     go_wp2
     go_ret
     exact ⟨by rw [HF.out];rfl,HU.out⟩
   ·rw [if_neg h3] at hR
    have g1i:¬(256:Int)<(nq:Int):=by omega
    by_cases g2:kind=5
    ·subst g2
     have g3:nq=0:=by omega
     have g3i:¬(0:Int)<(nq:Int):=by omega
     clear h3
     by_cases h4:ts<1∨1099511627776<ts
     ·rw [if_pos h4] at hR
      have Ka:=hid (cell_in (w:=(w.alloc (.cells #[.slice a1 nr c1,.int .i64 fam,.slice a2 nq c2,.int .i64 ts,.int .i64 seq,.int .i64 5,.slice none 0 0] 215))) (n:=(nr:Int)) (lo:=1) (hi:=256) (by omega))
      have Kb:=hid (cell_in (w:=(w.alloc (.cells #[.slice a1 nr c1,.int .i64 fam,.slice a2 nq c2,.int .i64 ts,.int .i64 seq,.int .i64 5,.slice none 0 0] 215))) (n:=fam) (lo:=0) (hi:=7) (by omega))
      have Kc:=hid (cell_out (w:=(w.alloc (.cells #[.slice a1 nr c1,.int .i64 fam,.slice a2 nq c2,.int .i64 ts,.int .i64 seq,.int .i64 5,.slice none 0 0] 215))) (n:=ts) (lo:=1) (hi:=1099511627776) (by omega))
      try subst g3
      have HF:=hid hR
      clear hR
      go_enter Tryz.func225,Tryz.ntmps225
      go_wp2_with fail
      refine Ka.out.mono ?_
      rintro x w' ⟨rfl,hww⟩
      subst hww
      go_wp2_with fail
      refine Kb.out.mono ?_
      rintro x w' ⟨rfl,hww⟩
      subst hww
      go_wp2_with fail
      refine Kc.out.mono ?_
      rintro x w' ⟨rfl,hww⟩
      subst hww
      go_wp2
      go_ret
      exact ⟨by rw [HF.out];rfl,HU.out⟩
     ·rw [if_neg h4] at hR
      by_cases h5:seq<0∨17592186044431<seq
      ·rw [if_pos h5] at hR
       have Ka:=hid (cell_in (w:=(w.alloc (.cells #[.slice a1 nr c1,.int .i64 fam,.slice a2 nq c2,.int .i64 ts,.int .i64 seq,.int .i64 5,.slice none 0 0] 215))) (n:=(nr:Int)) (lo:=1) (hi:=256) (by omega))
       have Kb:=hid (cell_in (w:=(w.alloc (.cells #[.slice a1 nr c1,.int .i64 fam,.slice a2 nq c2,.int .i64 ts,.int .i64 seq,.int .i64 5,.slice none 0 0] 215))) (n:=fam) (lo:=0) (hi:=7) (by omega))
       have Kc:=hid (cell_in (w:=(w.alloc (.cells #[.slice a1 nr c1,.int .i64 fam,.slice a2 nq c2,.int .i64 ts,.int .i64 seq,.int .i64 5,.slice none 0 0] 215))) (n:=ts) (lo:=1) (hi:=1099511627776) (by omega))
       have Kd:=hid (cell_out (w:=(w.alloc (.cells #[.slice a1 nr c1,.int .i64 fam,.slice a2 nq c2,.int .i64 ts,.int .i64 seq,.int .i64 5,.slice none 0 0] 215))) (n:=seq) (lo:=0) (hi:=17592186044431) (by omega))
       try subst g3
       have HF:=hid hR
       clear hR
       go_enter Tryz.func225,Tryz.ntmps225
       go_wp2_with fail
       refine Ka.out.mono ?_
       rintro x w' ⟨rfl,hww⟩
       subst hww
       go_wp2_with fail
       refine Kb.out.mono ?_
       rintro x w' ⟨rfl,hww⟩
       subst hww
       go_wp2_with fail
       refine Kc.out.mono ?_
       rintro x w' ⟨rfl,hww⟩
       subst hww
       go_wp2_with fail
       refine Kd.out.mono ?_
       rintro x w' ⟨rfl,hww⟩
       subst hww
       go_wp2
       go_ret
       exact ⟨by rw [HF.out];rfl,HU.out⟩
      ·rw [if_neg h5] at hR
       by_cases h6:(5:Int)<1∨(5:Int)<5
       ·rw [if_pos h6] at hR
        omega
       ·rw [if_neg h6] at hR
        have Ka:=hid (cell_in (w:=(w.alloc (.cells #[.slice a1 nr c1,.int .i64 fam,.slice a2 nq c2,.int .i64 ts,.int .i64 seq,.int .i64 5,.slice none 0 0] 215))) (n:=(nr:Int)) (lo:=1) (hi:=256) (by omega))
        have Kb:=hid (cell_in (w:=(w.alloc (.cells #[.slice a1 nr c1,.int .i64 fam,.slice a2 nq c2,.int .i64 ts,.int .i64 seq,.int .i64 5,.slice none 0 0] 215))) (n:=fam) (lo:=0) (hi:=7) (by omega))
        have Kc:=hid (cell_in (w:=(w.alloc (.cells #[.slice a1 nr c1,.int .i64 fam,.slice a2 nq c2,.int .i64 ts,.int .i64 seq,.int .i64 5,.slice none 0 0] 215))) (n:=ts) (lo:=1) (hi:=1099511627776) (by omega))
        have Kd:=hid (cell_in (w:=(w.alloc (.cells #[.slice a1 nr c1,.int .i64 fam,.slice a2 nq c2,.int .i64 ts,.int .i64 seq,.int .i64 5,.slice none 0 0] 215))) (n:=seq) (lo:=0) (hi:=17592186044431) (by omega))
        have Ke:=hid (cell_in (w:=(w.alloc (.cells #[.slice a1 nr c1,.int .i64 fam,.slice a2 nq c2,.int .i64 ts,.int .i64 seq,.int .i64 5,.slice none 0 0] 215))) (n:=5) (lo:=1) (hi:=5) (by omega))
        try subst g3
        have HF:=hid hR
        clear hR
        go_enter Tryz.func225,Tryz.ntmps225
        go_wp2_with fail
        refine Ka.out.mono ?_
        rintro x w' ⟨rfl,hww⟩
        subst hww
        go_wp2_with fail
        refine Kb.out.mono ?_
        rintro x w' ⟨rfl,hww⟩
        subst hww
        go_wp2_with fail
        refine Kc.out.mono ?_
        rintro x w' ⟨rfl,hww⟩
        subst hww
        go_wp2_with fail
        refine Kd.out.mono ?_
        rintro x w' ⟨rfl,hww⟩
        subst hww
        go_wp2_with fail
        refine Ke.out.mono ?_
        rintro x w' ⟨rfl,hww⟩
        subst hww
        go_wp2
        go_ret
        exact ⟨by rw [HF.out];rfl,HU.out⟩
    ·have g2i:(kind==5)=false:=by simp;exact g2
     clear h3
     by_cases h4:ts<1∨1099511627776<ts
     ·rw [if_pos h4] at hR
      have Ka:=hid (cell_in (w:=(w.alloc (.cells #[.slice a1 nr c1,.int .i64 fam,.slice a2 nq c2,.int .i64 ts,.int .i64 seq,.int .i64 kind,.slice none 0 0] 215))) (n:=(nr:Int)) (lo:=1) (hi:=256) (by omega))
      have Kb:=hid (cell_in (w:=(w.alloc (.cells #[.slice a1 nr c1,.int .i64 fam,.slice a2 nq c2,.int .i64 ts,.int .i64 seq,.int .i64 kind,.slice none 0 0] 215))) (n:=fam) (lo:=0) (hi:=7) (by omega))
      have Kc:=hid (cell_out (w:=(w.alloc (.cells #[.slice a1 nr c1,.int .i64 fam,.slice a2 nq c2,.int .i64 ts,.int .i64 seq,.int .i64 kind,.slice none 0 0] 215))) (n:=ts) (lo:=1) (hi:=1099511627776) (by omega))
      try subst g3
      have HF:=hid hR
      clear hR
      go_enter Tryz.func225,Tryz.ntmps225
      go_wp2_with fail
      refine Ka.out.mono ?_
      rintro x w' ⟨rfl,hww⟩
      subst hww
      go_wp2_with fail
      refine Kb.out.mono ?_
      rintro x w' ⟨rfl,hww⟩
      subst hww
      go_wp2_with fail
      refine Kc.out.mono ?_
      rintro x w' ⟨rfl,hww⟩
      subst hww
      go_wp2
      go_ret
      exact ⟨by rw [HF.out];rfl,HU.out⟩
     ·rw [if_neg h4] at hR
      by_cases h5:seq<0∨17592186044431<seq
      ·rw [if_pos h5] at hR
       have Ka:=hid (cell_in (w:=(w.alloc (.cells #[.slice a1 nr c1,.int .i64 fam,.slice a2 nq c2,.int .i64 ts,.int .i64 seq,.int .i64 kind,.slice none 0 0] 215))) (n:=(nr:Int)) (lo:=1) (hi:=256) (by omega))
       have Kb:=hid (cell_in (w:=(w.alloc (.cells #[.slice a1 nr c1,.int .i64 fam,.slice a2 nq c2,.int .i64 ts,.int .i64 seq,.int .i64 kind,.slice none 0 0] 215))) (n:=fam) (lo:=0) (hi:=7) (by omega))
       have Kc:=hid (cell_in (w:=(w.alloc (.cells #[.slice a1 nr c1,.int .i64 fam,.slice a2 nq c2,.int .i64 ts,.int .i64 seq,.int .i64 kind,.slice none 0 0] 215))) (n:=ts) (lo:=1) (hi:=1099511627776) (by omega))
       have Kd:=hid (cell_out (w:=(w.alloc (.cells #[.slice a1 nr c1,.int .i64 fam,.slice a2 nq c2,.int .i64 ts,.int .i64 seq,.int .i64 kind,.slice none 0 0] 215))) (n:=seq) (lo:=0) (hi:=17592186044431) (by omega))
       try subst g3
       have HF:=hid hR
       clear hR
       go_enter Tryz.func225,Tryz.ntmps225
       go_wp2_with fail
       refine Ka.out.mono ?_
       rintro x w' ⟨rfl,hww⟩
       subst hww
       go_wp2_with fail
       refine Kb.out.mono ?_
       rintro x w' ⟨rfl,hww⟩
       subst hww
       go_wp2_with fail
       refine Kc.out.mono ?_
       rintro x w' ⟨rfl,hww⟩
       subst hww
       go_wp2_with fail
       refine Kd.out.mono ?_
       rintro x w' ⟨rfl,hww⟩
       subst hww
       go_wp2
       go_ret
       exact ⟨by rw [HF.out];rfl,HU.out⟩
      ·rw [if_neg h5] at hR
       by_cases h6:kind<1∨5<kind
       ·rw [if_pos h6] at hR
        have Ka:=hid (cell_in (w:=(w.alloc (.cells #[.slice a1 nr c1,.int .i64 fam,.slice a2 nq c2,.int .i64 ts,.int .i64 seq,.int .i64 kind,.slice none 0 0] 215))) (n:=(nr:Int)) (lo:=1) (hi:=256) (by omega))
        have Kb:=hid (cell_in (w:=(w.alloc (.cells #[.slice a1 nr c1,.int .i64 fam,.slice a2 nq c2,.int .i64 ts,.int .i64 seq,.int .i64 kind,.slice none 0 0] 215))) (n:=fam) (lo:=0) (hi:=7) (by omega))
        have Kc:=hid (cell_in (w:=(w.alloc (.cells #[.slice a1 nr c1,.int .i64 fam,.slice a2 nq c2,.int .i64 ts,.int .i64 seq,.int .i64 kind,.slice none 0 0] 215))) (n:=ts) (lo:=1) (hi:=1099511627776) (by omega))
        have Kd:=hid (cell_in (w:=(w.alloc (.cells #[.slice a1 nr c1,.int .i64 fam,.slice a2 nq c2,.int .i64 ts,.int .i64 seq,.int .i64 kind,.slice none 0 0] 215))) (n:=seq) (lo:=0) (hi:=17592186044431) (by omega))
        have Ke:=hid (cell_out (w:=(w.alloc (.cells #[.slice a1 nr c1,.int .i64 fam,.slice a2 nq c2,.int .i64 ts,.int .i64 seq,.int .i64 kind,.slice none 0 0] 215))) (n:=kind) (lo:=1) (hi:=5) (by omega))
        have HF:=hid hR
        clear hR
        go_enter Tryz.func225,Tryz.ntmps225
        go_wp2_with fail
        refine Ka.out.mono ?_
        rintro x w' ⟨rfl,hww⟩
        subst hww
        go_wp2_with fail
        refine Kb.out.mono ?_
        rintro x w' ⟨rfl,hww⟩
        subst hww
        go_wp2_with fail
        refine Kc.out.mono ?_
        rintro x w' ⟨rfl,hww⟩
        subst hww
        go_wp2_with fail
        refine Kd.out.mono ?_
        rintro x w' ⟨rfl,hww⟩
        subst hww
        go_wp2_with fail
        refine Ke.out.mono ?_
        rintro x w' ⟨rfl,hww⟩
        subst hww
        go_wp2
        go_ret
        exact ⟨by rw [HF.out];rfl,HU.out⟩
       ·rw [if_neg h6] at hR
        by_cases g4:kind=1
        ·have Ke:=hid (cell_in (w:=(w.alloc (.cells #[.slice a1 nr c1,.int .i64 fam,.slice a2 nq c2,.int .i64 ts,.int .i64 seq,.int .i64 kind,.slice none 0 0] 215))) (n:=kind) (lo:=1) (hi:=5) (by omega))
         have Ka:=hid (cell_in (w:=(w.alloc (.cells #[.slice a1 nr c1,.int .i64 fam,.slice a2 nq c2,.int .i64 ts,.int .i64 seq,.int .i64 kind,.slice none 0 0] 215))) (n:=(nr:Int)) (lo:=1) (hi:=256) (by omega))
         have Kb:=hid (cell_in (w:=(w.alloc (.cells #[.slice a1 nr c1,.int .i64 fam,.slice a2 nq c2,.int .i64 ts,.int .i64 seq,.int .i64 kind,.slice none 0 0] 215))) (n:=fam) (lo:=0) (hi:=7) (by omega))
         have Kc:=hid (cell_in (w:=(w.alloc (.cells #[.slice a1 nr c1,.int .i64 fam,.slice a2 nq c2,.int .i64 ts,.int .i64 seq,.int .i64 kind,.slice none 0 0] 215))) (n:=ts) (lo:=1) (hi:=1099511627776) (by omega))
         have Kd:=hid (cell_in (w:=(w.alloc (.cells #[.slice a1 nr c1,.int .i64 fam,.slice a2 nq c2,.int .i64 ts,.int .i64 seq,.int .i64 kind,.slice none 0 0] 215))) (n:=seq) (lo:=0) (hi:=17592186044431) (by omega))
         have Ke:=hid (cell_in (w:=(w.alloc (.cells #[.slice a1 nr c1,.int .i64 fam,.slice a2 nq c2,.int .i64 ts,.int .i64 seq,.int .i64 kind,.slice none 0 0] 215))) (n:=kind) (lo:=1) (hi:=5) (by omega))
         subst g4
         have HF:=hid hR
         clear hR
         go_enter Tryz.func225,Tryz.ntmps225
         go_wp2_with fail
         refine Ka.out.mono ?_
         rintro x w' ⟨rfl,hww⟩
         subst hww
         go_wp2_with fail
         refine Kb.out.mono ?_
         rintro x w' ⟨rfl,hww⟩
         subst hww
         go_wp2_with fail
         refine Kc.out.mono ?_
         rintro x w' ⟨rfl,hww⟩
         subst hww
         go_wp2_with fail
         refine Kd.out.mono ?_
         rintro x w' ⟨rfl,hww⟩
         subst hww
         go_wp2_with fail
         refine Ke.out.mono ?_
         rintro x w' ⟨rfl,hww⟩
         subst hww
         go_wp2
         go_ret
         exact ⟨by rw [HF.out];rfl,HU.out⟩
        ·have g4i:(kind==1)=false:=by simp;exact g4
         have Ka:=hid (cell_in (w:=(w.alloc (.cells #[.slice a1 nr c1,.int .i64 fam,.slice a2 nq c2,.int .i64 ts,.int .i64 seq,.int .i64 kind,.slice none 0 0] 215))) (n:=(nr:Int)) (lo:=1) (hi:=256) (by omega))
         have Kb:=hid (cell_in (w:=(w.alloc (.cells #[.slice a1 nr c1,.int .i64 fam,.slice a2 nq c2,.int .i64 ts,.int .i64 seq,.int .i64 kind,.slice none 0 0] 215))) (n:=fam) (lo:=0) (hi:=7) (by omega))
         have Kc:=hid (cell_in (w:=(w.alloc (.cells #[.slice a1 nr c1,.int .i64 fam,.slice a2 nq c2,.int .i64 ts,.int .i64 seq,.int .i64 kind,.slice none 0 0] 215))) (n:=ts) (lo:=1) (hi:=1099511627776) (by omega))
         have Kd:=hid (cell_in (w:=(w.alloc (.cells #[.slice a1 nr c1,.int .i64 fam,.slice a2 nq c2,.int .i64 ts,.int .i64 seq,.int .i64 kind,.slice none 0 0] 215))) (n:=seq) (lo:=0) (hi:=17592186044431) (by omega))
         have Ke:=hid (cell_in (w:=(w.alloc (.cells #[.slice a1 nr c1,.int .i64 fam,.slice a2 nq c2,.int .i64 ts,.int .i64 seq,.int .i64 kind,.slice none 0 0] 215))) (n:=kind) (lo:=1) (hi:=5) (by omega))
         have HF:=hid hR
         clear hR
         go_enter Tryz.func225,Tryz.ntmps225
         go_wp2_with fail
         refine Ka.out.mono ?_
         rintro x w' ⟨rfl,hww⟩
         subst hww
         go_wp2_with fail
         refine Kb.out.mono ?_
         rintro x w' ⟨rfl,hww⟩
         subst hww
         go_wp2_with fail
         refine Kc.out.mono ?_
         rintro x w' ⟨rfl,hww⟩
         subst hww
         go_wp2_with fail
         refine Kd.out.mono ?_
         rintro x w' ⟨rfl,hww⟩
         subst hww
         go_wp2_with fail
         refine Ke.out.mono ?_
         rintro x w' ⟨rfl,hww⟩
         subst hww
         go_wp2
         go_ret
         exact ⟨by rw [HF.out];rfl,HU.out⟩
theorem flag_no (w:World) (b:Bool) (hb:b=true):Calls Tryz.prog 227 #[.bool b] w fun e w'=>e=.returned (.int .u8 0)∧w'=w:=by
 subst hb
 go_enter Tryz.func227,Tryz.ntmps227
 go_wp2
 go_ret
 exact ⟨rfl,rfl⟩
theorem flag_yes (w:World) (b:Bool) (hb:b=false):Calls Tryz.prog 227 #[.bool b] w fun e w'=>e=.returned (.int .u8 1)∧w'=w:=by
 subst hb
 go_enter Tryz.func227,Tryz.ntmps227
 go_wp2
 go_ret
 exact ⟨rfl,rfl⟩
theorem NewB.rebase {w w1 w2:World} {v:Value} {bs:List UInt8} (h:NewB w1 w2 v bs) (hu:Upd (fun _=>False) w w1):NewB w w2 v bs:=⟨h.data,fun k hk=>Nat.le_trans hu.size (h.new k hk),hu.trans h.upd (fun _ _ e=>e)⟩
theorem Upd.cell {w w':World} (hu:Upd (fun _=>False) w w') {q j:Nat} {u:Value} (hq:q<w.heap.size) (h:w.cell? ⟨q,j,none⟩=some u):w'.cell? ⟨q,j,none⟩=some u:=by
 rw [World.cell?_of_block (w:=w) (a:=⟨q,j,none⟩) (hu.block q hq (fun e=>e))];exact h
theorem NewB.glue {w w1:World} {v s:Value} {bs news:List UInt8} (h:NewB w w1 v bs) (hs:BAt w1 s news) (hl:bs.length+news.length≤140737488355328) :
  ∃ao L cap w2,(Builtin.append_ #[22,22] 22 #[v,s]).run Tryz.prog w1=.ok (.slice ao L cap) w2∧NewB w w2 (.slice ao L cap) (bs++news):=by
 obtain ⟨v',w2,hr,hn⟩:=h.join hs hl 22
 obtain ⟨ao,cap,rfl,-,-⟩:=hn.shape
 exact ⟨ao,_,cap,w2,hr,hn⟩
structure EntAt (w:World) (v:Value) (e:EntA):Prop where
 eq:∃a1 c1 a2 c2,v=.agg #[.slice a1 e.row.length c1,.int .i64 e.fam,.slice a2 e.qual.length c2,.int .i64 e.ts,.int .i64 e.seq,.int .i64 e.kind,.slice none 0 0]∧BAt w (.slice a1 e.row.length c1) e.row∧BAt w (.slice a2 e.qual.length c2) e.qual
theorem EntAt.is {w:World} {v:Value} {e:EntA} (h:EntAt w v e):EntIs v e:=by
 obtain ⟨a1,c1,a2,c2,h,-⟩:=h.eq
 exact ⟨a1,c1,a2,c2,h⟩
theorem key_bad {w:World} {v:Value} {e:EntA} (hv:EntIs v e) (hb:e.bad≠0) :
  Calls Tryz.prog 209 #[v] w fun x w'=>x=.returned (.tuple #[.slice none 0 0,.int .i64 e.bad])∧Upd (fun _=>False) w w':=by
 have HV:=hid hv
 obtain ⟨a1,c1,a2,c2,rfl⟩:=hv
 obtain ⟨R,hR⟩:∃R,R=e.bad:=⟨_,rfl⟩
 have hu:=(Upd.refl (fun _=>False) w).alloc (.cells #[.slice a1 e.row.length c1,.int .i64 e.fam,.slice a2 e.qual.length c2,.int .i64 e.ts,.int .i64 e.seq,.int .i64 e.kind,.slice none 0 0] 215)
 have HC:=hid (check_any (w:=w.alloc (.cells #[.slice a1 e.row.length c1,.int .i64 e.fam,.slice a2 e.qual.length c2,.int .i64 e.ts,.int .i64 e.seq,.int .i64 e.kind,.slice none 0 0] 215)) HV.out)
 rw [←hR] at HC hb⊢
 have hbi:(R==0)=false:=by simp;exact hb
 have HU:=hid hu
 clear hu hR hb
 go_enter Tryz.func209,Tryz.ntmps209
 go_wp2_with fail
 refine HC.out.mono ?_
 rintro x w2 ⟨rfl,hu2⟩
 have Ka:=hid (HU.out.trans hu2 (fun _ _ e=>e))
 clear hu2
 go_wp2
 go_ret2
 exact ⟨rfl,Ka.out⟩
theorem key_any {w:World} {v:Value} {e:EntA} (hv:EntAt w v e) (hb:e.bad=0) :
  Calls Tryz.prog 209 #[v] w fun x w'=>∃v',x=.returned (.tuple #[v',.int .i64 0])∧NewB w w' v' e.key:=by
 have HV:=hid hv.is
 obtain ⟨a1,c1,a2,c2,rfl,hb1,hb2⟩:=hv.eq
 have hu:=(Upd.refl (fun _=>False) w).alloc (.cells #[.slice a1 e.row.length c1,.int .i64 e.fam,.slice a2 e.qual.length c2,.int .i64 e.ts,.int .i64 e.seq,.int .i64 e.kind,.slice none 0 0] 215)
 have hal:=heap_alloc_new w (.cells #[.slice a1 e.row.length c1,.int .i64 e.fam,.slice a2 e.qual.length c2,.int .i64 e.ts,.int .i64 e.seq,.int .i64 e.kind,.slice none 0 0] 215)
 have HC:=hid (check_any (w:=w.alloc (.cells #[.slice a1 e.row.length c1,.int .i64 e.fam,.slice a2 e.qual.length c2,.int .i64 e.ts,.int .i64 e.seq,.int .i64 e.kind,.slice none 0 0] 215)) HV.out)
 rw [hb] at HC
 obtain ⟨K,hK⟩:∃K,K=e.key:=⟨_,rfl⟩
 rw [←hK]
 unfold EntA.key at hK
 unfold EntA.bad at hb
 obtain ⟨row,fam,qual,ts,seq,kind⟩:=e
 simp only at hb hK hb1 hb2 hu hal HC HV⊢
 clear hv
 by_cases h1:row.length<1∨256<row.length
 ·rw [if_pos h1] at hb;omega
 rw [if_neg h1] at hb
 by_cases h2:fam<0∨7<fam
 ·rw [if_pos h2] at hb;omega
 rw [if_neg h2] at hb
 by_cases h3:256<qual.length∨(kind=5∧0<qual.length)
 ·rw [if_pos h3] at hb;omega
 rw [if_neg h3] at hb
 by_cases h4:ts<1∨1099511627776<ts
 ·rw [if_pos h4] at hb;omega
 rw [if_neg h4] at hb
 by_cases h5:seq<0∨17592186044431<seq
 ·rw [if_pos h5] at hb;omega
 rw [if_neg h5] at hb
 by_cases h6:kind<1∨5<kind
 ·rw [if_pos h6] at hb;omega
 clear hb
 obtain ⟨f,rfl⟩:∃f:Nat,fam=f:=⟨fam.toNat,by omega⟩
 obtain ⟨t,rfl⟩:∃t:Nat,ts=t:=⟨ts.toNat,by omega⟩
 obtain ⟨s,rfl⟩:∃s:Nat,seq=s:=⟨seq.toNat,by omega⟩
 obtain ⟨k,rfl⟩:∃k:Nat,kind=k:=⟨kind.toNat,by omega⟩
 rw [Int.toNat_natCast,Int.toNat_natCast,Int.toNat_natCast,Int.toNat_natCast] at hK
 have hrl:row.length≤256:=by omega
 have hql:qual.length≤256:=by omega
 have hf8:f<8:=by omega
 have hk6:k<6:=by omega
 have hfu:(((UInt8.ofNat f).toNat:Nat):Int)=(f:Int):=by rw [UInt8.toNat_ofNat'];omega
 have hku:(((UInt8.ofNat k).toNat:Nat):Int)=(k:Int):=by rw [UInt8.toNat_ofNat'];omega
 have hfw:IntKind.u8.wrap (f:Int)=(f:Int):=by rw [IntKind.wrap_u8];omega
 have hfm:(f:Int)%256=(f:Int):=by omega
 have hkm:(k:Int)%256=(k:Int):=by omega
 have HT:=hid (fun (W:World)=>falling_any (w:=W) (n:=t) (by omega))
 have HS:=hid (fun (W:World)=>falling_any (w:=W) (n:=s) (by omega))
 have HK:=hid hK;have HU:=hid hu;have Ky:=hid hfu;have Ks:=hid hku
 have Kt:=hid hb1;have Kz:=hid hb2;have Ku:=hid hal
 have Kn:=hid (ordT_len row);have Za:=hid (ordT_len qual)
 have Kk:=hid hrl;have Kv:=hid hql
 obtain ⟨nr,hnr⟩:∃nr,nr=row.length:=⟨_,rfl⟩
 obtain ⟨nq,hnq⟩:∃nq,nq=qual.length:=⟨_,rfl⟩
 rw [←hnr,←hnq] at Ku HC HU⊢
 rw [←hnr] at Kt Kn Kk
 rw [←hnq] at Kz Za Kv
 have Kr:=hid hnr;have Zd:=hid hnq
 clear h1 h2 h3 h4 h5 h6 hK hu hfu hku hb1 hb2 hal hrl hql hnr hnq
 by_cases hk5:k=5
 ·have hk5i:((k:Int)==5)=true:=by simp;omega
  have hk5n:((k:Int) != 5)=false:=by simp;omega
  have Kl:=hid hk5
  clear hk5
  have HP:=hid (show ([UInt8.ofNat f,0].map byteV).toArray=#[.int .u8 (f:Int),.int .u8 0] from by simp only [List.map,byteV,Ky.out];rfl)
  go_enter Tryz.func209,Tryz.ntmps209
  go_wp2_with fail
  refine HC.out.mono ?_
  rintro x w2 ⟨rfl,hu2⟩
  have Km:=hid (HU.out.trans hu2 (fun _ _ e=>e))
  have hq2:=hu2.get Ku.out (fun e=>e)
  have hql2:w.heap.size<w2.heap.size:=lt_of_heap hq2
  have HQ:=hid (fun (W:World) (hW:Upd (fun _=>False) w2 W)=>hW.get hq2 (fun e=>e))
  clear hu2
  obtain ⟨q,hq⟩:∃q,q=w.heap.size:=⟨_,rfl⟩
  rw [←hq] at hq2 hql2 HQ⊢
  clear hq
  have d0:w2.cell? ⟨q,0,none⟩=some (.slice a1 nr c1):=cell_of_row w2 q 0 _ _ _ hq2
  have d1:w2.cell? ⟨q,1,none⟩=some (.int .i64 f):=cell_of_row w2 q 1 _ _ _ hq2
  have d5:w2.cell? ⟨q,5,none⟩=some (.int .i64 k):=cell_of_row w2 q 5 _ _ _ hq2
  have hcur:=hid (show Upd (fun _=>False) w2 w2.drew from (Upd.refl _ w2).drew)
  clear hq2
  go_upto_region 4 with fail
  go_region_held3 (fun V=>V.cell? ⟨q,0,none⟩=some (.slice a1 nr c1)∧V.cell? ⟨q,1,none⟩=some (.int .i64 f)∧V.cell? ⟨q,5,none⟩=some (.int .i64 k))
   (first
    | (exact ⟨hcur.out.cell hql2 d0,hcur.out.cell hql2 d1,hcur.out.cell hql2 d5⟩)
    | go_keep)
   (first
    | (go_at_call 226;refine (ordered_any (Kt.out.keep (Km.out.trans hcur.out (fun _ _ e=>e))) (by have:=Kr.out;have:=Kk.out;omega)).mono ?_;rintro e w3 ⟨v3,rfl,hn3⟩;have hN:=hn3.rebase hcur.out;have hcur:=hid hN.upd;obtain ⟨ao4,L4,cap4,w4,hr4,hn4⟩:=hN.put [UInt8.ofNat f,0] #[.int .u8 f,.int .u8 0] 2 HP.out rfl (by have:=Kn.out;have:=Kr.out;have:=Kk.out;simp [ordB];omega))
    | (go_at_call 227;refine (flag_no _ _ (by first|rfl|(simp;done)|(simp;omega))).mono ?_;rintro e w5 ⟨rfl,hww⟩;obtain rfl:=hww.symm)
    | (show (if _=true then Oper.wp _ (Oper.mk (some 26) _ _ _ _ _) _ _ _ _ else _);refine step_append_eq rfl (.tmp 17) (.tmp 25) 22 rfl rfl rfl hr4 ?_;have hcur:=hid hn4.upd)
    | fail)
  all_goals
   have Kg:=hid hn4
   clear hn4 hr4 hN hn3 d0 d1 d5 hcur
   have Ka:=hid Kg.out
   have e5a:w4.cell? ⟨q,5,none⟩=some (.int .i64 k):=cell_of_row w4 q 5 _ _ _ (HQ.out _ Kg.out.upd)
   obtain ⟨P,hP⟩:∃P,P=ordB row ++ [UInt8.ofNat f,0]:=⟨_,rfl⟩
   rw [←hP] at Ka
   have Ko:=hid hP
   obtain ⟨T1,hT1⟩:∃T1,T1=eightB (9223372036854775807-t):=⟨_,rfl⟩
   obtain ⟨S1,hS1⟩:∃S1,S1=eightB (9223372036854775807-s):=⟨_,rfl⟩
   rw [←hT1] at HT HK
   rw [←hS1] at HS HK
   have Kc:=hid (show T1.length=8 from by rw [hT1];rfl)
   have Kh:=hid (show S1.length=8 from by rw [hS1];rfl)
   have Kd:=hid (show P.length≤2000 from by rw [hP];have:=Kn.out;have:=Kk.out;simp [ordB];omega)
   have e3:w4.cell? ⟨q,3,none⟩=some (.int .i64 t):=cell_of_row w4 q 3 _ _ _ (HQ.out _ Ka.out.upd)
   have e4:w4.cell? ⟨q,4,none⟩=some (.int .i64 s):=cell_of_row w4 q 4 _ _ _ (HQ.out _ Ka.out.upd)
   have hq9:q<w4.heap.size:=Nat.lt_of_lt_of_le hql2 Ka.out.upd.size
   clear hT1 hS1 hP
   go_wp2
   go_loopw [47,5] (fun iv ov wr=>∃j:Nat,j≤2∧iv=.int .i64 j∧∃ao L cap,ov=.slice ao L cap∧NewB w2 wr (.slice ao L cap) (if j=0 then P else if j=1 then P++T1 else P++T1++S1)) (fun iv _ _=>2-(intOf iv).toNat)
   case atStart=>exact ⟨0,by omega,rfl,_,_,_,rfl,Ka.out⟩
   case round=>
    obtain ⟨j,hj,rfl,ao,L,cap,rfl,hnew⟩:=hrel
    rcases j with _|_|_|j
    ·rw [if_pos rfl] at hnew
     rw [show (((0:Nat)):Int)=0 from rfl]
     have hix:∀W:World,(Instr.index 266 (.agg #[.int .i64 t,.int .i64 s]) (.int .i64 0)).run Tryz.prog W=.ok (.int .i64 t) W:=fun _=>by kernel_rfl
     have Kb:=hid hnew
     clear hnew e3 e4
     go_wp2_with fail
     refine (HT.out wr).mono ?_
     rintro e wa ⟨va,rfl,hna⟩
     obtain ⟨aoa,La,capa,wb,hra,hnb⟩:=(Kb.out.keep hna.upd).glue hna.data.bat (by have:=Kc.out;have:=Kd.out;omega)
     have Ke:=hid hra;have Kf:=hid hnb
     clear hna hra hnb
     go_wp2_with (at_builtin;refine wpList_append_run rfl _ _ _ rfl rfl rfl Ke.out ?_)
     go_roundw
     case rel=>exact ⟨1,by omega,by go_num,aoa,La,capa,rfl,Kf.out⟩
     case measure=>simp [intOf]
    ·rw [if_neg (by omega),if_pos rfl] at hnew
     rw [show (((0+1:Nat)):Int)=1 from rfl]
     have hix:∀W:World,(Instr.index 266 (.agg #[.int .i64 t,.int .i64 s]) (.int .i64 1)).run Tryz.prog W=.ok (.int .i64 s) W:=fun _=>by kernel_rfl
     have Kb:=hid hnew
     clear hnew e3 e4
     go_wp2_with fail
     refine (HS.out wr).mono ?_
     rintro e wa ⟨va,rfl,hna⟩
     obtain ⟨aoa,La,capa,wb,hra,hnb⟩:=(Kb.out.keep hna.upd).glue hna.data.bat (by have:=Kc.out;have:=Kh.out;have:=Kd.out;rw [List.length_append];omega)
     have Ke:=hid hra;have Kf:=hid hnb
     clear hna hra hnb
     go_wp2_with (at_builtin;refine wpList_append_run rfl _ _ _ rfl rfl rfl Ke.out ?_)
     go_roundw
     case rel=>exact ⟨2,by omega,by go_num,aoa,La,capa,rfl,Kf.out⟩
     case measure=>simp [intOf]
    ·rw [if_neg (by omega),if_neg (by omega)] at hnew
     have e5:wr.cell? ⟨q,5,none⟩=some (.int .i64 k):=cell_of_row wr q 5 _ _ _ (HQ.out _ hnew.upd)
     have hqr:q<wr.heap.size:=Nat.lt_of_lt_of_le hql2 hnew.upd.size
     have hp2:([UInt8.ofNat k].map byteV).toArray=#[.int .u8 (k:Int)]:=by simp only [List.map,byteV,Ks.out]
     obtain ⟨aoz,Lz,capz,wz,hrz,hnz⟩:=hnew.put [UInt8.ofNat k] #[.int .u8 (k:Int)] 1 hp2 rfl (by have:=Kc.out;have:=Kh.out;have:=Kd.out;rw [List.length_append,List.length_append];omega)
     have Kp:=hid hrz
     have Ki:=hid (hnz.rebase Km.out)
     have Kq:=hid (show K=P++T1++S1 ++ [UInt8.ofNat k] from by have h:=HK.out;rw [if_pos (by have:=Kl.out;omega),if_pos (by have:=Kl.out;omega),List.append_nil,←Ko.out] at h;exact h)
     clear hrz hnz hnew e3 e4 hp2
     go_wp2_with (at_builtin;refine wpList_append_run rfl _ _ _ rfl rfl rfl Kp.out ?_)
     go_ret2
     exact ⟨_,rfl,by rw [Kq.out];exact Ki.out⟩
    ·omega
 ·have hk5i:((k:Int)==5)=false:=by simp;omega
  have Kl:=hid hk5
  clear hk5
  have HP:=hid (show ([UInt8.ofNat f,1].map byteV).toArray=#[.int .u8 (f:Int),.int .u8 1] from by simp only [List.map,byteV,Ky.out];rfl)
  go_enter Tryz.func209,Tryz.ntmps209
  go_wp2_with fail
  refine HC.out.mono ?_
  rintro x w2 ⟨rfl,hu2⟩
  have Km:=hid (HU.out.trans hu2 (fun _ _ e=>e))
  have hq2:=hu2.get Ku.out (fun e=>e)
  have hql2:w.heap.size<w2.heap.size:=lt_of_heap hq2
  have HQ:=hid (fun (W:World) (hW:Upd (fun _=>False) w2 W)=>hW.get hq2 (fun e=>e))
  clear hu2
  obtain ⟨q,hq⟩:∃q,q=w.heap.size:=⟨_,rfl⟩
  rw [←hq] at hq2 hql2 HQ⊢
  clear hq
  have d0:w2.cell? ⟨q,0,none⟩=some (.slice a1 nr c1):=cell_of_row w2 q 0 _ _ _ hq2
  have d1:w2.cell? ⟨q,1,none⟩=some (.int .i64 f):=cell_of_row w2 q 1 _ _ _ hq2
  have d5:w2.cell? ⟨q,5,none⟩=some (.int .i64 k):=cell_of_row w2 q 5 _ _ _ hq2
  have hcur:=hid (show Upd (fun _=>False) w2 w2.drew from (Upd.refl _ w2).drew)
  clear hq2
  go_upto_region 4 with fail
  go_region_held3 (fun V=>V.cell? ⟨q,0,none⟩=some (.slice a1 nr c1)∧V.cell? ⟨q,1,none⟩=some (.int .i64 f)∧V.cell? ⟨q,5,none⟩=some (.int .i64 k))
   (first
    | (exact ⟨hcur.out.cell hql2 d0,hcur.out.cell hql2 d1,hcur.out.cell hql2 d5⟩)
    | go_keep)
   (first
    | (go_at_call 226;refine (ordered_any (Kt.out.keep (Km.out.trans hcur.out (fun _ _ e=>e))) (by have:=Kr.out;have:=Kk.out;omega)).mono ?_;rintro e w3 ⟨v3,rfl,hn3⟩;have hN:=hn3.rebase hcur.out;have hcur:=hid hN.upd;obtain ⟨ao4,L4,cap4,w4,hr4,hn4⟩:=hN.put [UInt8.ofNat f,1] #[.int .u8 f,.int .u8 1] 2 HP.out rfl (by have:=Kn.out;have:=Kr.out;have:=Kk.out;simp [ordB];omega))
    | (go_at_call 227;refine (flag_yes _ _ (by first|rfl|(simp;done)|(simp;omega))).mono ?_;rintro e w5 ⟨rfl,hww⟩;obtain rfl:=hww.symm)
    | (show (if _=true then Oper.wp _ (Oper.mk (some 26) _ _ _ _ _) _ _ _ _ else _);refine step_append_eq rfl (.tmp 17) (.tmp 25) 22 rfl rfl rfl hr4 ?_;have hcur:=hid hn4.upd)
    | fail)
  all_goals
   have Kg:=hid hn4
   clear hn4 hr4 hN hn3 d0 d1 d5 hcur
   have e5a:w4.cell? ⟨q,5,none⟩=some (.int .i64 k):=cell_of_row w4 q 5 _ _ _ (HQ.out _ Kg.out.upd)
   have e2a:w4.cell? ⟨q,2,none⟩=some (.slice a2 nq c2):=cell_of_row w4 q 2 _ _ _ (HQ.out _ Kg.out.upd)
   have hq4:q<w4.heap.size:=Nat.lt_of_lt_of_le hql2 Kg.out.upd.size
   go_wp2_with fail
   refine (ordered_any (Kz.out.keep (Km.out.trans Kg.out.upd (fun _ _ e=>e))) (by have:=Zd.out;have:=Kv.out;omega)).mono ?_
   rintro e w6 ⟨v6,rfl,hn6⟩
   have hol:=Kn.out
   have hoq:=Za.out
   have hrl:=Kk.out
   have hql:=Kv.out
   obtain ⟨ao7,L7,cap7,w7,hr7,hn7⟩:=(Kg.out.keep hn6.upd).glue hn6.data.bat (by simp [ordB];omega)
   have Zb:=hid hr7;have Zc:=hid hn7
   have e5b:w7.cell? ⟨q,5,none⟩=some (.int .i64 k):=cell_of_row w7 q 5 _ _ _ (HQ.out _ hn7.upd)
   have hq7:q<w7.heap.size:=Nat.lt_of_lt_of_le hql2 hn7.upd.size
   clear hr7 hn7 hn6 e2a e5a
   by_cases hk4:k=4
   ·have hk4i:((k:Int)==4)=true:=by simp;omega
    have Kw:=hid hk4
    clear hk4
    obtain ⟨ao8,L8,cap8,w8,hr8,hn8⟩:=Zc.out.put [0] #[.int .u8 0] 1 rfl rfl (by simp [ordB];omega)
    have Kx:=hid hr8;have Ka:=hid hn8
    have Kj:=hid (show (ordB row ++ [UInt8.ofNat f,1]++ordB qual ++ [0]).length≤2000 from by simp [ordB];omega)
    clear hr8 hn8 hol hoq hrl hql
    go_upto_region 7 with (at_builtin;refine wpList_append_run rfl _ _ _ rfl rfl rfl Zb.out ?_)
    go_wp2_with fail
    refine (flag_no _ _ rfl).mono ?_
    rintro e wf ⟨rfl,hww⟩
    obtain rfl:=hww.symm
    clear e5b
    obtain ⟨P,hP⟩:∃P,P=ordB row ++ [UInt8.ofNat f,1]++ordB qual ++ [0]:=⟨_,rfl⟩
    rw [←hP] at Ka Kj
    have Ko:=hid hP
    clear hP
    obtain ⟨T1,hT1⟩:∃T1,T1=eightB (9223372036854775807-t):=⟨_,rfl⟩
    obtain ⟨S1,hS1⟩:∃S1,S1=eightB (9223372036854775807-s):=⟨_,rfl⟩
    rw [←hT1] at HT HK
    rw [←hS1] at HS HK
    have Kc:=hid (show T1.length=8 from by rw [hT1];rfl)
    have Kh:=hid (show S1.length=8 from by rw [hS1];rfl)
    have Kd:=hid (show P.length≤2000 from Kj.out)
    have e3:w8.cell? ⟨q,3,none⟩=some (.int .i64 t):=cell_of_row w8 q 3 _ _ _ (HQ.out _ Ka.out.upd)
    have e4:w8.cell? ⟨q,4,none⟩=some (.int .i64 s):=cell_of_row w8 q 4 _ _ _ (HQ.out _ Ka.out.upd)
    have hq9:q<w8.heap.size:=Nat.lt_of_lt_of_le hql2 Ka.out.upd.size
    clear hT1 hS1
    go_wp2_with (at_builtin;refine wpList_append_run rfl _ _ _ rfl rfl rfl Kx.out ?_)
    go_loopw [47,5] (fun iv ov wr=>∃j:Nat,j≤2∧iv=.int .i64 j∧∃ao L cap,ov=.slice ao L cap∧NewB w2 wr (.slice ao L cap) (if j=0 then P else if j=1 then P++T1 else P++T1++S1)) (fun iv _ _=>2-(intOf iv).toNat)
    case atStart=>exact ⟨0,by omega,rfl,_,_,_,rfl,Ka.out⟩
    case round=>
     obtain ⟨j,hj,rfl,ao,L,cap,rfl,hnew⟩:=hrel
     rcases j with _|_|_|j
     ·rw [if_pos rfl] at hnew
      rw [show (((0:Nat)):Int)=0 from rfl]
      have hix:∀W:World,(Instr.index 266 (.agg #[.int .i64 t,.int .i64 s]) (.int .i64 0)).run Tryz.prog W=.ok (.int .i64 t) W:=fun _=>by kernel_rfl
      have Kb:=hid hnew
      clear hnew e3 e4
      go_wp2_with fail
      refine (HT.out wr).mono ?_
      rintro e wa ⟨va,rfl,hna⟩
      obtain ⟨aoa,La,capa,wb,hra,hnb⟩:=(Kb.out.keep hna.upd).glue hna.data.bat (by have:=Kc.out;have:=Kd.out;omega)
      have Ke:=hid hra;have Kf:=hid hnb
      clear hna hra hnb
      go_wp2_with (at_builtin;refine wpList_append_run rfl _ _ _ rfl rfl rfl Ke.out ?_)
      go_roundw
      case rel=>exact ⟨1,by omega,by go_num,aoa,La,capa,rfl,Kf.out⟩
      case measure=>simp [intOf]
     ·rw [if_neg (by omega),if_pos rfl] at hnew
      rw [show (((0+1:Nat)):Int)=1 from rfl]
      have hix:∀W:World,(Instr.index 266 (.agg #[.int .i64 t,.int .i64 s]) (.int .i64 1)).run Tryz.prog W=.ok (.int .i64 s) W:=fun _=>by kernel_rfl
      have Kb:=hid hnew
      clear hnew e3 e4
      go_wp2_with fail
      refine (HS.out wr).mono ?_
      rintro e wa ⟨va,rfl,hna⟩
      obtain ⟨aoa,La,capa,wb,hra,hnb⟩:=(Kb.out.keep hna.upd).glue hna.data.bat (by have:=Kc.out;have:=Kh.out;have:=Kd.out;rw [List.length_append];omega)
      have Ke:=hid hra;have Kf:=hid hnb
      clear hna hra hnb
      go_wp2_with (at_builtin;refine wpList_append_run rfl _ _ _ rfl rfl rfl Ke.out ?_)
      go_roundw
      case rel=>exact ⟨2,by omega,by go_num,aoa,La,capa,rfl,Kf.out⟩
      case measure=>simp [intOf]
     ·rw [if_neg (by omega),if_neg (by omega)] at hnew
      have e5:wr.cell? ⟨q,5,none⟩=some (.int .i64 k):=cell_of_row wr q 5 _ _ _ (HQ.out _ hnew.upd)
      have hqr:q<wr.heap.size:=Nat.lt_of_lt_of_le hql2 hnew.upd.size
      have hp2:([UInt8.ofNat k].map byteV).toArray=#[.int .u8 (k:Int)]:=by simp only [List.map,byteV,Ks.out]
      obtain ⟨aoz,Lz,capz,wz,hrz,hnz⟩:=hnew.put [UInt8.ofNat k] #[.int .u8 (k:Int)] 1 hp2 rfl (by have:=Kc.out;have:=Kh.out;have:=Kd.out;rw [List.length_append,List.length_append];omega)
      have Kp:=hid hrz
      have Ki:=hid (hnz.rebase Km.out)
      have Kq:=hid (show K=P++T1++S1 ++ [UInt8.ofNat k] from by have h:=HK.out;rw [if_neg (by have:=Kl.out;omega),if_neg (by have:=Kl.out;omega),if_pos (by have:=Kw.out;omega)] at h;rw [h,Ko.out];simp only [List.append_assoc])
      clear hrz hnz hnew e3 e4 hp2
      go_wp2_with (at_builtin;refine wpList_append_run rfl _ _ _ rfl rfl rfl Kp.out ?_)
      go_ret2
      exact ⟨_,rfl,by rw [Kq.out];exact Ki.out⟩
     ·omega
   ·have hk4i:((k:Int)==4)=false:=by simp;omega
    have Kw:=hid hk4
    clear hk4
    obtain ⟨ao8,L8,cap8,w8,hr8,hn8⟩:=Zc.out.put [1] #[.int .u8 1] 1 rfl rfl (by simp [ordB];omega)
    have Kx:=hid hr8;have Ka:=hid hn8
    have Kj:=hid (show (ordB row ++ [UInt8.ofNat f,1]++ordB qual ++ [1]).length≤2000 from by simp [ordB];omega)
    clear hr8 hn8 hol hoq hrl hql
    go_upto_region 7 with (at_builtin;refine wpList_append_run rfl _ _ _ rfl rfl rfl Zb.out ?_)
    go_wp2_with fail
    refine (flag_yes _ _ rfl).mono ?_
    rintro e wf ⟨rfl,hww⟩
    obtain rfl:=hww.symm
    clear e5b
    obtain ⟨P,hP⟩:∃P,P=ordB row ++ [UInt8.ofNat f,1]++ordB qual ++ [1]:=⟨_,rfl⟩
    rw [←hP] at Ka Kj
    have Ko:=hid hP
    clear hP
    obtain ⟨T1,hT1⟩:∃T1,T1=eightB (9223372036854775807-t):=⟨_,rfl⟩
    obtain ⟨S1,hS1⟩:∃S1,S1=eightB (9223372036854775807-s):=⟨_,rfl⟩
    rw [←hT1] at HT HK
    rw [←hS1] at HS HK
    have Kc:=hid (show T1.length=8 from by rw [hT1];rfl)
    have Kh:=hid (show S1.length=8 from by rw [hS1];rfl)
    have Kd:=hid (show P.length≤2000 from Kj.out)
    have e3:w8.cell? ⟨q,3,none⟩=some (.int .i64 t):=cell_of_row w8 q 3 _ _ _ (HQ.out _ Ka.out.upd)
    have e4:w8.cell? ⟨q,4,none⟩=some (.int .i64 s):=cell_of_row w8 q 4 _ _ _ (HQ.out _ Ka.out.upd)
    have hq9:q<w8.heap.size:=Nat.lt_of_lt_of_le hql2 Ka.out.upd.size
    clear hT1 hS1
    go_wp2_with (at_builtin;refine wpList_append_run rfl _ _ _ rfl rfl rfl Kx.out ?_)
    go_loopw [47,5] (fun iv ov wr=>∃j:Nat,j≤2∧iv=.int .i64 j∧∃ao L cap,ov=.slice ao L cap∧NewB w2 wr (.slice ao L cap) (if j=0 then P else if j=1 then P++T1 else P++T1++S1)) (fun iv _ _=>2-(intOf iv).toNat)
    case atStart=>exact ⟨0,by omega,rfl,_,_,_,rfl,Ka.out⟩
    case round=>
     obtain ⟨j,hj,rfl,ao,L,cap,rfl,hnew⟩:=hrel
     rcases j with _|_|_|j
     ·rw [if_pos rfl] at hnew
      rw [show (((0:Nat)):Int)=0 from rfl]
      have hix:∀W:World,(Instr.index 266 (.agg #[.int .i64 t,.int .i64 s]) (.int .i64 0)).run Tryz.prog W=.ok (.int .i64 t) W:=fun _=>by kernel_rfl
      have Kb:=hid hnew
      clear hnew e3 e4
      go_wp2_with fail
      refine (HT.out wr).mono ?_
      rintro e wa ⟨va,rfl,hna⟩
      obtain ⟨aoa,La,capa,wb,hra,hnb⟩:=(Kb.out.keep hna.upd).glue hna.data.bat (by have:=Kc.out;have:=Kd.out;omega)
      have Ke:=hid hra;have Kf:=hid hnb
      clear hna hra hnb
      go_wp2_with (at_builtin;refine wpList_append_run rfl _ _ _ rfl rfl rfl Ke.out ?_)
      go_roundw
      case rel=>exact ⟨1,by omega,by go_num,aoa,La,capa,rfl,Kf.out⟩
      case measure=>simp [intOf]
     ·rw [if_neg (by omega),if_pos rfl] at hnew
      rw [show (((0+1:Nat)):Int)=1 from rfl]
      have hix:∀W:World,(Instr.index 266 (.agg #[.int .i64 t,.int .i64 s]) (.int .i64 1)).run Tryz.prog W=.ok (.int .i64 s) W:=fun _=>by kernel_rfl
      have Kb:=hid hnew
      clear hnew e3 e4
      go_wp2_with fail
      refine (HS.out wr).mono ?_
      rintro e wa ⟨va,rfl,hna⟩
      obtain ⟨aoa,La,capa,wb,hra,hnb⟩:=(Kb.out.keep hna.upd).glue hna.data.bat (by have:=Kc.out;have:=Kh.out;have:=Kd.out;rw [List.length_append];omega)
      have Ke:=hid hra;have Kf:=hid hnb
      clear hna hra hnb
      go_wp2_with (at_builtin;refine wpList_append_run rfl _ _ _ rfl rfl rfl Ke.out ?_)
      go_roundw
      case rel=>exact ⟨2,by omega,by go_num,aoa,La,capa,rfl,Kf.out⟩
      case measure=>simp [intOf]
     ·rw [if_neg (by omega),if_neg (by omega)] at hnew
      have e5:wr.cell? ⟨q,5,none⟩=some (.int .i64 k):=cell_of_row wr q 5 _ _ _ (HQ.out _ hnew.upd)
      have hqr:q<wr.heap.size:=Nat.lt_of_lt_of_le hql2 hnew.upd.size
      have hp2:([UInt8.ofNat k].map byteV).toArray=#[.int .u8 (k:Int)]:=by simp only [List.map,byteV,Ks.out]
      obtain ⟨aoz,Lz,capz,wz,hrz,hnz⟩:=hnew.put [UInt8.ofNat k] #[.int .u8 (k:Int)] 1 hp2 rfl (by have:=Kc.out;have:=Kh.out;have:=Kd.out;rw [List.length_append,List.length_append];omega)
      have Kp:=hid hrz
      have Ki:=hid (hnz.rebase Km.out)
      have Kq:=hid (show K=P++T1++S1 ++ [UInt8.ofNat k] from by have h:=HK.out;rw [if_neg (by have:=Kl.out;omega),if_neg (by have:=Kl.out;omega),if_neg (by have:=Kw.out;omega)] at h;rw [h,Ko.out];simp only [List.append_assoc])
      clear hrz hnz hnew e3 e4 hp2
      go_wp2_with (at_builtin;refine wpList_append_run rfl _ _ _ rfl rfl rfl Kp.out ?_)
      go_ret2
      exact ⟨_,rfl,by rw [Kq.out];exact Ki.out⟩
     ·omega
abbrev entC (r:Value) (f:Int) (q:Value) (t s k:Int):Array Value:=#[r,.int .i64 f,q,.int .i64 t,.int .i64 s,.int .i64 k,.slice none 0 0]
structure PW (w W:World) (p2 p4:Nat) (r:Value) (f:Int) (q:Value) (t s k:Int):Prop where
 upd:Upd (fun _=>False) w W
 h2:W.heap[p2]? = some (.cells (entC (.slice none 0 0) 0 (.slice none 0 0) 0 0 0) 215 (0,0))
 h4:W.heap[p4]? = some (.cells (entC r f q t s k) 215 (0,0))
 n2:w.heap.size≤p2
 n4:w.heap.size≤p4
 ne:p2≠p4
theorem PW.keep {w W W':World} {p2 p4:Nat} {r q:Value} {f t s k:Int} (h:PW w W p2 p4 r f q t s k) (hu:Upd (fun _=>False) W W'):PW w W' p2 p4 r f q t s k:=
 ⟨h.upd.trans hu (fun _ _ e=>e),hu.get h.h2 (fun e=>e),hu.get h.h4 (fun e=>e),h.n2,h.n4,h.ne⟩
theorem PW.cells {w W : World} {p2 p4 : Nat} {r q : Value} {f t s k : Int} (h : PW w W p2 p4 r f q t s k) :
    (W.cell? ⟨p4,0,none⟩=some r∧W.cell? ⟨p4,1,none⟩=some (.int .i64 f)∧W.cell? ⟨p4,2,none⟩=some q∧W.cell? ⟨p4,3,none⟩=some (.int .i64 t)∧W.cell? ⟨p4,4,none⟩=some (.int .i64 s)∧W.cell? ⟨p4,5,none⟩=some (.int .i64 k)∧W.cell? ⟨p4,6,none⟩=some (.slice none 0 0))∧
    (W.cell? ⟨p2,0,none⟩=some (.slice none 0 0)∧W.cell? ⟨p2,1,none⟩=some (.int .i64 0)∧W.cell? ⟨p2,2,none⟩=some (.slice none 0 0)∧W.cell? ⟨p2,3,none⟩=some (.int .i64 0)∧W.cell? ⟨p2,4,none⟩=some (.int .i64 0)∧W.cell? ⟨p2,5,none⟩=some (.int .i64 0)∧W.cell? ⟨p2,6,none⟩=some (.slice none 0 0))∧
    (W.frozen? ⟨p2,0,none⟩=false∧W.frozen? ⟨p2,1,none⟩=false∧W.frozen? ⟨p2,2,none⟩=false∧W.frozen? ⟨p2,3,none⟩=false∧W.frozen? ⟨p2,4,none⟩=false∧W.frozen? ⟨p2,5,none⟩=false∧W.frozen? ⟨p2,6,none⟩=false)∧p2<W.heap.size∧p4<W.heap.size:=
  ⟨⟨cell_of_row _ _ 0 _ _ _ h.h4,cell_of_row _ _ 1 _ _ _ h.h4,cell_of_row _ _ 2 _ _ _ h.h4,cell_of_row _ _ 3 _ _ _ h.h4,cell_of_row _ _ 4 _ _ _ h.h4,cell_of_row _ _ 5 _ _ _ h.h4,cell_of_row _ _ 6 _ _ _ h.h4⟩,
   ⟨cell_of_row _ _ 0 _ _ _ h.h2, cell_of_row _ _ 1 _ _ _ h.h2, cell_of_row _ _ 2 _ _ _ h.h2, cell_of_row _ _ 3 _ _ _ h.h2, cell_of_row _ _ 4 _ _ _ h.h2, cell_of_row _ _ 5 _ _ _ h.h2, cell_of_row _ _ 6 _ _ _ h.h2⟩,
   ⟨frozen_of_row _ _ _ _ _ h.h2, frozen_of_row _ _ _ _ _ h.h2, frozen_of_row _ _ _ _ _ h.h2, frozen_of_row _ _ _ _ _ h.h2, frozen_of_row _ _ _ _ _ h.h2, frozen_of_row _ _ _ _ _ h.h2, frozen_of_row _ _ _ _ _ h.h2⟩, lt_of_heap h.h2, lt_of_heap h.h4⟩
theorem PW.start (w:World):PW w ((w.alloc (.cells (entC (.slice none 0 0) 0 (.slice none 0 0) 0 0 0) 215)).alloc (.cells (entC (.slice none 0 0) 0 (.slice none 0 0) 0 0 0) 215)) w.heap.size (w.heap.size+1) (.slice none 0 0) 0 (.slice none 0 0) 0 0 0:=by
 refine ⟨((Upd.refl _ w).alloc _).alloc _,?_,?_,Nat.le_refl _,Nat.le_succ _,by omega⟩
 ·rw [heap_alloc_past _ _ _ (by simp)];exact heap_alloc_new w _
 ·have h:=heap_alloc_new (w.alloc (.cells (entC (.slice none 0 0) 0 (.slice none 0 0) 0 0 0) 215)) (.cells (entC (.slice none 0 0) 0 (.slice none 0 0) 0 0 0) 215)
  simpa using h
abbrev entOut (W:World) (p:Nat) (r:Value) (f:Int) (q:Value) (t s k:Int):World:=
 (((((((W.setCell ⟨p,0,none⟩ r).setCell ⟨p,1,none⟩ (.int .i64 f)).setCell ⟨p,2,none⟩ q).setCell ⟨p,3,none⟩ (.int .i64 t)).setCell ⟨p,4,none⟩ (.int .i64 s)).setCell ⟨p,5,none⟩ (.int .i64 k)).setCell ⟨p,6,none⟩ (.slice none 0 0))
theorem PW.out {w W:World} {p2 p4:Nat} {r q:Value} {f t s k:Int} (h:PW w W p2 p4 r f q t s k) :
  (entOut W p2 r f q t s k).heap[p2]? = some (.cells (entC r f q t s k) 215 (0,0))∧Upd (fun _=>False) w (entOut W p2 r f q t s k)∧Upd (fun k=>k=p2) W (entOut W p2 r f q t s k):=by
 refine ⟨?_,?_,?_⟩
 ·have h1:=heap_setCell_at W p2 0 _ _ r h.h2
  have h2:=heap_setCell_at _ p2 1 _ _ (.int .i64 f) h1
  have h3:=heap_setCell_at _ p2 2 _ _ q h2
  have h4:=heap_setCell_at _ p2 3 _ _ (.int .i64 t) h3
  have h5:=heap_setCell_at _ p2 4 _ _ (.int .i64 s) h4
  have h6:=heap_setCell_at _ p2 5 _ _ (.int .i64 k) h5
  have h7:=heap_setCell_at _ p2 6 _ _ (.slice none 0 0) h6
  rw [h7]
  simp [entC]
 ·have hp:∀j:Nat,(⟨p2,j,none⟩:Addr).block<w.heap.size→False:=fun j e=>by have h1:p2<w.heap.size:=e;have:=h.n2;omega
  exact ((((((h.upd.setCell (hp 0) _).setCell (hp 1) _).setCell (hp 2) _).setCell (hp 3) _).setCell (hp 4) _).setCell (hp 5) _).setCell (hp 6) _
 ·have hp:∀j:Nat,(⟨p2,j,none⟩:Addr).block<W.heap.size→(⟨p2,j,none⟩:Addr).block=p2:=fun j _=>rfl
  exact (((((((Upd.refl (fun k=>k=p2) W).setCell (hp 0) _).setCell (hp 1) _).setCell (hp 2) _).setCell (hp 3) _).setCell (hp 4) _).setCell (hp 5) _).setCell (hp 6) _
theorem results_ent {fn:Func} {p u:Tmp} (h:fn.results=#[.cell p 215,.tmp u]) (tmps:Array Value) (w:World) (g:Nat) (cs:Array Value) (hsz:cs.size=7)
  (hp:tmps.getD p undef=.pointer (some ⟨g,0,none⟩)) (hg:w.heap[g]? = some (.cells cs 215 (0,0))) :
  (results fn tmps).run Tryz.prog w=.ok (.tuple #[.agg cs,tmps.getD u undef]) w:=by
 rw [results_cell_tmp h,hp]
 have hl:=run_loadVar_row (P:=Tryz.prog) w g 215 215 cs (0,0) _ hg Tryz.underlying215 rfl (by rw [hsz];kernel_rfl)
 simp [asAddr,Result.andThen,hl]
theorem PW.set0 {w W:World} {p2 p4:Nat} {r q:Value} {f t s k:Int} (h:PW w W p2 p4 r f q t s k) (v:Value):PW w (W.setCell ⟨p4,0,none⟩ v) p2 p4 v f q t s k:=
 ⟨h.upd.setCell (fun e=>by have h1:p4<w.heap.size:=e;have:=h.n4;omega) _,(heap_setCell_ne _ _ _ _ h.ne).trans h.h2,(heap_setCell_at _ _ 0 _ _ _ h.h4).trans (by simp [entC]),h.n2,h.n4,h.ne⟩
theorem PW.set1 {w W:World} {p2 p4:Nat} {r q:Value} {f t s k:Int} (h:PW w W p2 p4 r f q t s k) (v:Int):PW w (W.setCell ⟨p4,1,none⟩ (.int .i64 v)) p2 p4 r v q t s k:=
 ⟨h.upd.setCell (fun e=>by have h1:p4<w.heap.size:=e;have:=h.n4;omega) _,(heap_setCell_ne _ _ _ _ h.ne).trans h.h2,(heap_setCell_at _ _ 1 _ _ _ h.h4).trans (by simp [entC]),h.n2,h.n4,h.ne⟩
theorem PW.set2 {w W:World} {p2 p4:Nat} {r q:Value} {f t s k:Int} (h:PW w W p2 p4 r f q t s k) (v:Value):PW w (W.setCell ⟨p4,2,none⟩ v) p2 p4 r f v t s k:=
 ⟨h.upd.setCell (fun e=>by have h1:p4<w.heap.size:=e;have:=h.n4;omega) _,(heap_setCell_ne _ _ _ _ h.ne).trans h.h2,(heap_setCell_at _ _ 2 _ _ _ h.h4).trans (by simp [entC]),h.n2,h.n4,h.ne⟩
theorem PW.set3 {w W:World} {p2 p4:Nat} {r q:Value} {f t s k:Int} (h:PW w W p2 p4 r f q t s k) (v:Int):PW w (W.setCell ⟨p4,3,none⟩ (.int .i64 v)) p2 p4 r f q v s k:=
 ⟨h.upd.setCell (fun e=>by have h1:p4<w.heap.size:=e;have:=h.n4;omega) _,(heap_setCell_ne _ _ _ _ h.ne).trans h.h2,(heap_setCell_at _ _ 3 _ _ _ h.h4).trans (by simp [entC]),h.n2,h.n4,h.ne⟩
theorem PW.set4 {w W:World} {p2 p4:Nat} {r q:Value} {f t s k:Int} (h:PW w W p2 p4 r f q t s k) (v:Int):PW w (W.setCell ⟨p4,4,none⟩ (.int .i64 v)) p2 p4 r f q t v k:=
 ⟨h.upd.setCell (fun e=>by have h1:p4<w.heap.size:=e;have:=h.n4;omega) _,(heap_setCell_ne _ _ _ _ h.ne).trans h.h2,(heap_setCell_at _ _ 4 _ _ _ h.h4).trans (by simp [entC]),h.n2,h.n4,h.ne⟩
theorem PW.set5 {w W:World} {p2 p4:Nat} {r q:Value} {f t s k:Int} (h:PW w W p2 p4 r f q t s k) (v:Int):PW w (W.setCell ⟨p4,5,none⟩ (.int .i64 v)) p2 p4 r f q t s v:=
 ⟨h.upd.setCell (fun e=>by have h1:p4<w.heap.size:=e;have:=h.n4;omega) _,(heap_setCell_ne _ _ _ _ h.ne).trans h.h2,(heap_setCell_at _ _ 5 _ _ _ h.h4).trans (by simp [entC]),h.n2,h.n4,h.ne⟩
structure RB (W:World) (v:Value) (bs:List UInt8) (p2 p4:Nat):Prop where
 bat:BAt W v bs
 own:∀k,v.ownBlock=some k→k≠p2∧k≠p4
theorem RB.keep {W W':World} {v:Value} {bs:List UInt8} {p2 p4:Nat} (h:RB W v bs p2 p4) (hu:Upd (fun _=>False) W W'):RB W' v bs p2 p4:=⟨h.bat.keep hu,h.own⟩
theorem RB.set {W:World} {v:Value} {bs:List UInt8} {p2 p4:Nat} (h:RB W v bs p2 p4) (j:Nat) (u:Value):RB (W.setCell ⟨p4,j,none⟩ u) v bs p2 p4:=
 ⟨h.bat.upd (Upd.cell_only W p4 j u) (fun k hk _ e=>(h.own k hk).2 e),h.own⟩
theorem RB.nil (W:World) (p2 p4:Nat):RB W (.slice none 0 0) [] p2 p4:=⟨(NewB.nil W).data.bat,fun k e=>(by cases e)⟩
theorem readF_le {b:List UInt8} {a:Nat} (ha:a≤b.length) (h:(readF b a).2.2=0):(readF b a).2.1≤b.length:=by
 unfold readF at h⊢
 split at h
 ·simp at h
 ·rename_i h1
  rw [if_neg h1]
  split at h
  ·simp at h
  ·rename_i h2
   rw [if_neg h2]
   show a+8≤_
   omega
theorem BAt.at_getD {w:World} {g o n cap:Nat} {bs:List UInt8} (h:BAt w (.slice (some ⟨g,o,none⟩) n cap) bs) {j:Nat} (hj:j<bs.length):w.cell? ⟨g,o+j,none⟩=some (.int .u8 (((bs.getD j 0).toNat:Nat):Int)):=by
 rw [(h.at_ hj).1,List.getD_eq_getElem?_getD,List.getElem?_eq_getElem hj]
 rfl
theorem parse_any {w:World} {v:Value} {b:List UInt8} (hv:BAt w v b) (hl:b.length≤140737488351232) :
  Calls Tryz.prog 208 #[v] w fun e w'=>∃a1 n1 c1 f a2 n2 c2 t s k,e=.returned (.tuple #[.agg (entC (.slice a1 n1 c1) f (.slice a2 n2 c2) t s k),.bool (parseP b).isSome])∧Upd (fun _=>False) w w'∧∀ent p,parseP b=some (ent,p)→EntAt w' (.agg (entC (.slice a1 n1 c1) f (.slice a2 n2 c2) t s k)) ent:=by
 have HV:=hid hv
 have Kt:=hid (readOrdered_any (hv.keep (PW.start w).upd) (a:=0) (Nat.zero_le _) hl)
 have Kx:=hid (PW.start w)
 obtain ⟨ao,cap,rfl,h1,h2,-,-⟩:=hv
 obtain ⟨O,hO⟩:∃O,O=parseP b:=⟨_,rfl⟩
 rw [←hO]
 unfold parseP at hO
 have Kw:=hid (fun h:(readO b 0).2.2=0=>readO_back h)
 generalize (readO b 0).1=row at hO Kt Kw
 generalize (readO b 0).2.1=p at hO Kt Kw
 generalize (readO b 0).2.2=er at hO Kt Kw
 have Kz:=hid hO
 clear hO
 go_enter Tryz.func208,Tryz.ntmps208
 go_wp2_with fail
 refine Kt.out.mono ?_
 rintro e W ⟨v3,rfl,hn3⟩
 obtain ⟨ao3,c3,hv3,-,-⟩:=hn3.shape
 obtain ⟨nr,hnr⟩:∃nr,nr=row.length:=⟨_,rfl⟩
 rw [←hnr] at hv3
 subst hv3
 have Zc:=hid hnr
 clear hnr
 have Kc:=hid (Kx.out.keep hn3.upd)
 have Zd:=hid hn3
 obtain ⟨p2,hp2⟩:∃p2,p2=w.heap.size:=⟨_,rfl⟩
 obtain ⟨p4,hp4⟩:∃p4,p4=w.heap.size+1:=⟨_,rfl⟩
 have hown:∀k,(Value.slice ao3 nr c3).ownBlock=some k→k≠p2∧k≠p4:=fun k hk=>by
  have h1:=hn3.new k hk
  have h2:((w.alloc (.cells (entC (.slice none 0 0) 0 (.slice none 0 0) 0 0 0) 215)).alloc (.cells (entC (.slice none 0 0) 0 (.slice none 0 0) 0 0 0) 215)).heap.size=w.heap.size+1+1:=by simp
  rw [h2] at h1
  omega
 have Kg:=hid (show RB W (.slice ao3 nr c3) row p2 p4 from ⟨hn3.data.bat,hown⟩)
 clear hown
 rw [←hp4,←hp2] at Kc
 rw [←hp4,←hp2]
 have hne:p2≠p4:=Kc.out.ne
 have hne':p4≠p2:=hne.symm
 clear hn3 Kx Kt hp2 hp4
 obtain ⟨⟨a0,a1,a2,a3,a4,a5,a6⟩,⟨b0,b1,b2,b3,b4,b5,b6⟩,⟨z0,z1,z2,z3,z4,z5,z6⟩,l2,l4⟩:=Kc.out.cells
 have y0:=frozen_of_row W p4 0 _ _ Kc.out.h4
 have y1:=frozen_of_row W p4 1 _ _ Kc.out.h4
 have y2:=frozen_of_row W p4 2 _ _ Kc.out.h4
 have y3:=frozen_of_row W p4 3 _ _ Kc.out.h4
 have y4:=frozen_of_row W p4 4 _ _ Kc.out.h4
 have y5:=frozen_of_row W p4 5 _ _ Kc.out.h4
 by_cases her:er=0
 ·have heri:(er != 0)=false:=by simp;exact her
  by_cases hlen:b.length<p+2
  ·have HF:=hid (show O=none from by rw [Kz.out,if_pos (.inr hlen)])
   have hpw2:IntKind.i64.wrap ((p:Int)+2)=(p:Int)+2:=by have:=(Kw.out her).2.2;rw [IntKind.wrap_i64];omega
   have hli:(b.length:Int)<(p:Int)+2:=by omega
   clear her hlen
   have HO:=hid Kc.out.out
   go_wp2
   (try simp only [Exit.inBlock,Exit.then])
   refine bodyPost_ret (results_ent rfl _ _ p2 _ rfl rfl HO.out.1) rfl ?_
   exact ⟨_,_,_,_,_,_,_,_,_,_,by rw [HF.out];rfl,HO.out.2.1,fun ent p e=>by rw [HF.out] at e;cases e⟩
  ·have Ke:=hid (show O=_ from by rw [Kz.out,if_neg (by omega)])
   have hli:¬(b.length:Int)<(p:Int)+2:=by omega
   obtain ⟨g,o,rfl,hgw,-⟩:=HV.out.cell (j:=p) (by omega)
   have dp:=(HV.out.keep Kc.out.upd).at_getD (j:=p) (by omega)
   generalize b.getD p 0=c at dp Ke
   have hc8:=c.toNat_lt
   have hpl2:p+2≤b.length:=by omega
   have hgp4:g≠p4:=by have:=Kc.out.n4;omega
   have hgp2:g≠p2:=by have:=Kc.out.n2;omega
   clear her hlen
   have wpp:IntKind.i64.wrap ((p:Int))=(p:Int):=by rw [IntKind.wrap_i64];omega
   have pi0:(0:Int)≤(p:Int):=by omega
   have pil:(p:Int)<(b.length:Int):=by omega
   have hd0:PW w W.drew p2 p4 _ _ _ _ _ _:=Kc.out.keep (Upd.refl _ W).drew
   have f0:=frozen_of_row W.drew p4 0 _ _ hd0.h4
   have f1:=frozen_of_row (W.drew.setCell ⟨p4,0,none⟩ (.slice ao3 nr c3)) p4 1 _ _ (hd0.set0 (.slice ao3 nr c3)).h4
   have f2:=hd0.cells.1.1
   have f3:=(hd0.set0 (.slice ao3 nr c3)).cells.1.2.1
   have f4:W.drew.cell? ⟨g,o+p,none⟩=some (.int .u8 c.toNat):=dp
   have f5:=hd0.cells.2.2.2.2
   clear hd0
   go_upto_region 5 with fail
   go_region
   have Ky:=hid (((Kc.out.set0 (.slice ao3 nr c3)).set1 c.toNat).keep (Upd.refl _ _).drew)
   have Za:=hid (((Kg.out.set 0 (.slice ao3 nr c3)).set 1 (.int .i64 c.toNat)).keep (Upd.refl _ _).drew)
   clear f0 f1 f2 f3 f4 f5
   clear a0 a1 a2 a3 a4 a5 a6 b0 b1 b2 b3 b4 b5 b6 z0 z1 z2 z3 z4 z5 z6 l2 l4 y0 y1 y2 y3 y4 y5
   generalize (((W.setCell ⟨p4,0,none⟩ (.slice ao3 nr c3)).setCell ⟨p4,1,none⟩ (.int .i64 c.toNat)).drew)=W5 at Ky Za⊢
   have dp1:=(HV.out.keep Ky.out.upd).at_getD (j:=p+1) (by omega)
   generalize b.getD (p+1) 0=d at dp1 Ke
   have hd8:=d.toNat_lt
   clear Kc Kg dp Zd
   rename Hid (PW w W5 p2 p4 _ _ _ _ _ _)=>Kc
   rename Hid (RB W5 _ row p2 p4)=>Kg
   by_cases hdz:d.toNat=0
   ·have hdi:((d.toNat:Int) != 0)=false:=by simp;exact hdz
    have Kn:=hid (show O=_ from by rw [Ke.out,if_pos hdz])
    have hat:p+2≤b.length:=by omega
    have HQ:=hid (RB.nil W5 p2 p4)
    clear Ke hdz
    rename Hid (O=_)=>Ke
    have Ko:=hid (readFalling_any (HV.out.keep Kc.out.upd) hat hl)
    have Kp:=hid (fun h:(readF b (p+2)).2.2=0=>readF_le hat h)
    unfold parseT at Ke
    generalize readF b (p+2)=R1 at Ko Ke Kp
    obtain ⟨t1,at1,e1⟩:=R1
    simp only at Ko Ke Kp
    clear hat
    go_wp2_with fail
    refine Ko.out.mono ?_
    rintro e W8 ⟨rfl,hww⟩
    obtain rfl:=hww.symm
    obtain ⟨⟨a0,a1,a2,a3,a4,a5,a6⟩,⟨b0,b1,b2,b3,b4,b5,b6⟩,⟨z0,z1,z2,z3,z4,z5,z6⟩,l2,l4⟩:=Kc.out.cells
    have y0:=frozen_of_row W5 p4 0 _ _ Kc.out.h4
    have y1:=frozen_of_row W5 p4 1 _ _ Kc.out.h4
    have y2:=frozen_of_row W5 p4 2 _ _ Kc.out.h4
    have y3:=frozen_of_row W5 p4 3 _ _ Kc.out.h4
    have y4:=frozen_of_row W5 p4 4 _ _ Kc.out.h4
    have y5:=frozen_of_row W5 p4 5 _ _ Kc.out.h4
    have hd3:=Kc.out.set3 t1
    have Kq:=hid (Kg.out.set 3 (.int .i64 t1))
    have Kr:=hid (HQ.out.set 3 (.int .i64 t1))
    have Kb:=hid hd3
    clear hd3
    by_cases he1:e1=0
    ·have he1n:(e1 != 0)=false:=by simp;exact he1
     have Kj:=hid (show O=_ from by rw [Ke.out,if_neg (by simpa using he1)])
     have hat1:at1≤b.length:=Kp.out he1
     clear he1
     go_upto_region 18 with fail
     clear a0 a1 a2 a3 a4 a5 a6 b0 b1 b2 b3 b4 b5 b6 z0 z1 z2 z3 z4 z5 z6 l2 l4 y0 y1 y2 y3 y4 y5
     generalize W5.setCell ⟨p4,3,none⟩ (.int .i64 (t1:Int))=W9 at Kb Kq Kr⊢
     have Ks:=hid (readFalling_any (HV.out.keep Kb.out.upd) hat1 hl)
     have Km:=hid (fun h:(readF b at1).2.2=0=>readF_le hat1 h)
     generalize readF b at1=R2 at Ks Kj Km
     obtain ⟨t2,at2,e2⟩:=R2
     simp only at Ks Kj Km
     clear hat1
     go_wp2_with fail
     refine Ks.out.mono ?_
     rintro e W10 ⟨rfl,hww⟩
     obtain rfl:=hww.symm
     obtain ⟨⟨a0,a1,a2,a3,a4,a5,a6⟩,⟨b0,b1,b2,b3,b4,b5,b6⟩,⟨z0,z1,z2,z3,z4,z5,z6⟩,l2,l4⟩:=Kb.out.cells
     have y0:=frozen_of_row W9 p4 0 _ _ Kb.out.h4
     have y1:=frozen_of_row W9 p4 1 _ _ Kb.out.h4
     have y2:=frozen_of_row W9 p4 2 _ _ Kb.out.h4
     have y3:=frozen_of_row W9 p4 3 _ _ Kb.out.h4
     have y4:=frozen_of_row W9 p4 4 _ _ Kb.out.h4
     have y5:=frozen_of_row W9 p4 5 _ _ Kb.out.h4
     have Kh:=hid (Kq.out.set 4 (.int .i64 t2))
     have Ki:=hid (Kr.out.set 4 (.int .i64 t2))
     have Ka:=hid (Kb.out.set4 t2)
     by_cases he2:e2=0
     ·have he2n:(e2 != 0)=false:=by simp;exact he2
      by_cases hend:b.length≤at2
      ·have hei:(b.length:Int)≤(at2:Int):=by omega
       have HF:=hid (show O=none from by rw [Kj.out,if_pos (.inr hend)])
       clear he2 hend
       go_upto_region 20 with fail
       clear a0 a1 a2 a3 a4 a5 a6 b0 b1 b2 b3 b4 b5 b6 z0 z1 z2 z3 z4 z5 z6 l2 l4 y0 y1 y2 y3 y4 y5
       generalize W9.setCell ⟨p4,4,none⟩ (.int .i64 (t2:Int))=W11 at Ka Kh Ki⊢
       obtain ⟨⟨a0,a1,a2,a3,a4,a5,a6⟩,⟨b0,b1,b2,b3,b4,b5,b6⟩,⟨z0,z1,z2,z3,z4,z5,z6⟩,l2,l4⟩:=Ka.out.cells
       have y0:=frozen_of_row W11 p4 0 _ _ Ka.out.h4
       have y1:=frozen_of_row W11 p4 1 _ _ Ka.out.h4
       have y2:=frozen_of_row W11 p4 2 _ _ Ka.out.h4
       have y3:=frozen_of_row W11 p4 3 _ _ Ka.out.h4
       have y4:=frozen_of_row W11 p4 4 _ _ Ka.out.h4
       have y5:=frozen_of_row W11 p4 5 _ _ Ka.out.h4
       have HO:=hid Ka.out.out
       go_wp2
       (try simp only [Exit.inBlock,Exit.then])
       refine bodyPost_ret (results_ent rfl _ _ p2 _ rfl rfl HO.out.1) rfl ?_
       exact ⟨_,_,_,_,_,_,_,_,_,_,by rw [HF.out];rfl,HO.out.2.1,fun ent p e=>by rw [HF.out] at e;cases e⟩
      ·have hei:¬(b.length:Int)≤(at2:Int):=by omega
       have HF:=hid (show O=some _ from by rw [Kj.out,if_neg (by omega)])
       have hal:at2<b.length:=by omega
       have ha0:(0:Int)≤(at2:Int):=by omega
       have hai:(at2:Int)<(b.length:Int):=by omega
       clear he2 hend
       go_upto_region 21 with fail
       clear a0 a1 a2 a3 a4 a5 a6 b0 b1 b2 b3 b4 b5 b6 z0 z1 z2 z3 z4 z5 z6 l2 l4 y0 y1 y2 y3 y4 y5
       generalize W9.setCell ⟨p4,4,none⟩ (.int .i64 (t2:Int))=W11 at Ka Kh Ki⊢
       have de:=(HV.out.keep Ka.out.upd).at_getD (j:=at2) hal
       generalize b.getD at2 0=kc at de HF
       have hk8:=kc.toNat_lt
       obtain ⟨⟨a0,a1,a2,a3,a4,a5,a6⟩,⟨b0,b1,b2,b3,b4,b5,b6⟩,⟨z0,z1,z2,z3,z4,z5,z6⟩,l2,l4⟩:=Ka.out.cells
       have y0:=frozen_of_row W11 p4 0 _ _ Ka.out.h4
       have y1:=frozen_of_row W11 p4 1 _ _ Ka.out.h4
       have y2:=frozen_of_row W11 p4 2 _ _ Ka.out.h4
       have y3:=frozen_of_row W11 p4 3 _ _ Ka.out.h4
       have y4:=frozen_of_row W11 p4 4 _ _ Ka.out.h4
       have y5:=frozen_of_row W11 p4 5 _ _ Ka.out.h4
       have Kk:=hid (Kh.out.set 5 (.int .i64 kc.toNat))
       have Kl:=hid (Ki.out.set 5 (.int .i64 kc.toNat))
       have Kd:=hid (Ka.out.set5 kc.toNat)
       go_upto_region 22 with fail
       clear a0 a1 a2 a3 a4 a5 a6 b0 b1 b2 b3 b4 b5 b6 z0 z1 z2 z3 z4 z5 z6 l2 l4 y0 y1 y2 y3 y4 y5
       generalize W11.setCell ⟨p4,5,none⟩ (.int .i64 (kc.toNat:Int))=W13 at Kd Kk Kl⊢
       clear de
       obtain ⟨⟨a0,a1,a2,a3,a4,a5,a6⟩,⟨b0,b1,b2,b3,b4,b5,b6⟩,⟨z0,z1,z2,z3,z4,z5,z6⟩,l2,l4⟩:=Kd.out.cells
       have y0:=frozen_of_row W13 p4 0 _ _ Kd.out.h4
       have y1:=frozen_of_row W13 p4 1 _ _ Kd.out.h4
       have y2:=frozen_of_row W13 p4 2 _ _ Kd.out.h4
       have y3:=frozen_of_row W13 p4 3 _ _ Kd.out.h4
       have y4:=frozen_of_row W13 p4 4 _ _ Kd.out.h4
       have y5:=frozen_of_row W13 p4 5 _ _ Kd.out.h4
       have HO:=hid Kd.out.out
       go_wp2
       (try simp only [Exit.inBlock,Exit.then])
       refine bodyPost_ret (results_ent rfl _ _ p2 _ rfl rfl HO.out.1) rfl ?_
       refine ⟨_,_,_,_,_,_,_,_,_,_,by rw [HF.out];rfl,HO.out.2.1,fun ent pp e=>?_⟩
       rw [HF.out] at e
       injection e with e
       injection e with e _
       subst e
       have hb1:=Kk.out.bat.upd HO.out.2.2 (fun k hk _ e=>(Kk.out.own k hk).1 e)
       have hb2:=Kl.out.bat.upd HO.out.2.2 (fun k hk _ e=>(Kl.out.own k hk).1 e)
       have hnr:=Zc.out
       subst hnr
       exact ⟨⟨_,_,_,_,rfl,hb1,hb2⟩⟩
     ·have he2n:(e2 != 0)=true:=by simp;exact he2
      have HF:=hid (show O=none from by rw [Kj.out,if_pos (.inl he2)])
      clear he2
      go_upto_region 20 with fail
      clear a0 a1 a2 a3 a4 a5 a6 b0 b1 b2 b3 b4 b5 b6 z0 z1 z2 z3 z4 z5 z6 l2 l4 y0 y1 y2 y3 y4 y5
      generalize W9.setCell ⟨p4,4,none⟩ (.int .i64 (t2:Int))=W11 at Ka Kh Ki⊢
      obtain ⟨⟨a0,a1,a2,a3,a4,a5,a6⟩,⟨b0,b1,b2,b3,b4,b5,b6⟩,⟨z0,z1,z2,z3,z4,z5,z6⟩,l2,l4⟩:=Ka.out.cells
      have y0:=frozen_of_row W11 p4 0 _ _ Ka.out.h4
      have y1:=frozen_of_row W11 p4 1 _ _ Ka.out.h4
      have y2:=frozen_of_row W11 p4 2 _ _ Ka.out.h4
      have y3:=frozen_of_row W11 p4 3 _ _ Ka.out.h4
      have y4:=frozen_of_row W11 p4 4 _ _ Ka.out.h4
      have y5:=frozen_of_row W11 p4 5 _ _ Ka.out.h4
      have HO:=hid Ka.out.out
      go_wp2
      (try simp only [Exit.inBlock,Exit.then])
      refine bodyPost_ret (results_ent rfl _ _ p2 _ rfl rfl HO.out.1) rfl ?_
      exact ⟨_,_,_,_,_,_,_,_,_,_,by rw [HF.out];rfl,HO.out.2.1,fun ent p e=>by rw [HF.out] at e;cases e⟩
    ·have he1n:(e1 != 0)=true:=by simp;exact he1
     have HF:=hid (show O=none from by rw [Ke.out,if_pos he1])
     clear he1
     go_upto_region 17 with fail
     clear a0 a1 a2 a3 a4 a5 a6 b0 b1 b2 b3 b4 b5 b6 z0 z1 z2 z3 z4 z5 z6 l2 l4 y0 y1 y2 y3 y4 y5
     generalize W5.setCell ⟨p4,3,none⟩ (.int .i64 (t1:Int))=W9 at Kb Kq Kr⊢
     obtain ⟨⟨a0,a1,a2,a3,a4,a5,a6⟩,⟨b0,b1,b2,b3,b4,b5,b6⟩,⟨z0,z1,z2,z3,z4,z5,z6⟩,l2,l4⟩:=Kb.out.cells
     have y0:=frozen_of_row W9 p4 0 _ _ Kb.out.h4
     have y1:=frozen_of_row W9 p4 1 _ _ Kb.out.h4
     have y2:=frozen_of_row W9 p4 2 _ _ Kb.out.h4
     have y3:=frozen_of_row W9 p4 3 _ _ Kb.out.h4
     have y4:=frozen_of_row W9 p4 4 _ _ Kb.out.h4
     have y5:=frozen_of_row W9 p4 5 _ _ Kb.out.h4
     have HO:=hid Kb.out.out
     go_wp2
     (try simp only [Exit.inBlock,Exit.then])
     refine bodyPost_ret (results_ent rfl _ _ p2 _ rfl rfl HO.out.1) rfl ?_
     exact ⟨_,_,_,_,_,_,_,_,_,_,by rw [HF.out];rfl,HO.out.2.1,fun ent p e=>by rw [HF.out] at e;cases e⟩
   ·have hdi:((d.toNat:Int) != 0)=true:=by simp;exact hdz
    have Kn:=hid (show O=_ from by rw [Ke.out,if_neg hdz])
    have Ku:=hid (readOrdered_any (HV.out.keep Kc.out.upd) (a:=p+2) hpl2 hl)
    have Kv:=hid (fun h:(readO b (p+2)).2.2=0=>(readO_back h).2.2)
    generalize readO b (p+2)=R6 at Ku Kn Kv
    obtain ⟨ql,p6,e6⟩:=R6
    simp only at Ku Kn Kv
    have l25:=Kc.out.cells.2.2.2
    clear Ke hdz
    go_wp2_with fail
    refine Ku.out.mono ?_
    rintro e W6 ⟨v6,rfl,hn6⟩
    obtain ⟨ao6,c6,hv6,-,-⟩:=hn6.shape
    obtain ⟨nq,hnq⟩:∃nq,nq=ql.length:=⟨_,rfl⟩
    rw [←hnq] at hv6
    subst hv6
    have Ze:=hid hnq
    have Kf:=hid (Kc.out.keep hn6.upd)
    have Zb:=hid (Kg.out.keep hn6.upd)
    have Zf:=hid (show RB W6 (.slice ao6 nq c6) ql p2 p4 from ⟨hn6.data.bat,fun k hk=>by have:=hn6.new k hk;omega⟩)
    clear hnq hn6 l25 Kc Kg
    obtain ⟨⟨a0,a1,a2,a3,a4,a5,a6⟩,⟨b0,b1,b2,b3,b4,b5,b6⟩,⟨z0,z1,z2,z3,z4,z5,z6⟩,l2,l4⟩:=Kf.out.cells
    have y0:=frozen_of_row W6 p4 0 _ _ Kf.out.h4
    have y1:=frozen_of_row W6 p4 1 _ _ Kf.out.h4
    have y2:=frozen_of_row W6 p4 2 _ _ Kf.out.h4
    have y3:=frozen_of_row W6 p4 3 _ _ Kf.out.h4
    have y4:=frozen_of_row W6 p4 4 _ _ Kf.out.h4
    have y5:=frozen_of_row W6 p4 5 _ _ Kf.out.h4
    by_cases he6:e6=0
    ·have he6n:(e6 != 0)=false:=by simp;exact he6
     have hp6:p6≤b.length:=Kv.out he6
     by_cases hend:b.length≤p6
     ·have hei:(b.length:Int)≤(p6:Int):=by omega
      have HF:=hid (show O=none from by rw [Kn.out,if_pos (.inr hend)])
      clear he6 hend
      have HO:=hid Kf.out.out
      go_wp2
      (try simp only [Exit.inBlock,Exit.then])
      refine bodyPost_ret (results_ent rfl _ _ p2 _ rfl rfl HO.out.1) rfl ?_
      exact ⟨_,_,_,_,_,_,_,_,_,_,by rw [HF.out];rfl,HO.out.2.1,fun ent p e=>by rw [HF.out] at e;cases e⟩
     ·have hei:¬(b.length:Int)≤(p6:Int):=by omega
      have Ke:=hid (show O=_ from by rw [Kn.out,if_neg (by omega)])
      have hat:p6+1≤b.length:=by omega
      have Kc:=hid (Kf.out.set2 (.slice ao6 nq c6))
      have Kg:=hid (Zb.out.set 2 (.slice ao6 nq c6))
      have HQ:=hid (Zf.out.set 2 (.slice ao6 nq c6))
      clear he6 hend Kn
      go_upto_region 14 with fail
      clear a0 a1 a2 a3 a4 a5 a6 b0 b1 b2 b3 b4 b5 b6 z0 z1 z2 z3 z4 z5 z6 l2 l4 y0 y1 y2 y3 y4 y5
      generalize W6.setCell ⟨p4,2,none⟩ (.slice ao6 nq c6)=W7 at Kc Kg HQ⊢
      have hnq:=Ze.out
      subst hnq
      have Ko:=hid (readFalling_any (HV.out.keep Kc.out.upd) hat hl)
      have Kp:=hid (fun h:(readF b (p6+1)).2.2=0=>readF_le hat h)
      unfold parseT at Ke
      generalize readF b (p6+1)=R1 at Ko Ke Kp
      obtain ⟨t1,at1,e1⟩:=R1
      simp only at Ko Ke Kp
      clear hat
      go_wp2_with fail
      refine Ko.out.mono ?_
      rintro e W8 ⟨rfl,hww⟩
      obtain rfl:=hww.symm
      obtain ⟨⟨a0,a1,a2,a3,a4,a5,a6⟩,⟨b0,b1,b2,b3,b4,b5,b6⟩,⟨z0,z1,z2,z3,z4,z5,z6⟩,l2,l4⟩:=Kc.out.cells
      have y0:=frozen_of_row W7 p4 0 _ _ Kc.out.h4
      have y1:=frozen_of_row W7 p4 1 _ _ Kc.out.h4
      have y2:=frozen_of_row W7 p4 2 _ _ Kc.out.h4
      have y3:=frozen_of_row W7 p4 3 _ _ Kc.out.h4
      have y4:=frozen_of_row W7 p4 4 _ _ Kc.out.h4
      have y5:=frozen_of_row W7 p4 5 _ _ Kc.out.h4
      have hd3:=Kc.out.set3 t1
      have Kq:=hid (Kg.out.set 3 (.int .i64 t1))
      have Kr:=hid (HQ.out.set 3 (.int .i64 t1))
      have Kb:=hid hd3
      clear hd3
      by_cases he1:e1=0
      ·have he1n:(e1 != 0)=false:=by simp;exact he1
       have Kj:=hid (show O=_ from by rw [Ke.out,if_neg (by simpa using he1)])
       have hat1:at1≤b.length:=Kp.out he1
       clear he1
       go_upto_region 18 with fail
       clear a0 a1 a2 a3 a4 a5 a6 b0 b1 b2 b3 b4 b5 b6 z0 z1 z2 z3 z4 z5 z6 l2 l4 y0 y1 y2 y3 y4 y5
       generalize W7.setCell ⟨p4,3,none⟩ (.int .i64 (t1:Int))=W9 at Kb Kq Kr⊢
       have Ks:=hid (readFalling_any (HV.out.keep Kb.out.upd) hat1 hl)
       have Km:=hid (fun h:(readF b at1).2.2=0=>readF_le hat1 h)
       generalize readF b at1=R2 at Ks Kj Km
       obtain ⟨t2,at2,e2⟩:=R2
       simp only at Ks Kj Km
       clear hat1
       go_wp2_with fail
       refine Ks.out.mono ?_
       rintro e W10 ⟨rfl,hww⟩
       obtain rfl:=hww.symm
       obtain ⟨⟨a0,a1,a2,a3,a4,a5,a6⟩,⟨b0,b1,b2,b3,b4,b5,b6⟩,⟨z0,z1,z2,z3,z4,z5,z6⟩,l2,l4⟩:=Kb.out.cells
       have y0:=frozen_of_row W9 p4 0 _ _ Kb.out.h4
       have y1:=frozen_of_row W9 p4 1 _ _ Kb.out.h4
       have y2:=frozen_of_row W9 p4 2 _ _ Kb.out.h4
       have y3:=frozen_of_row W9 p4 3 _ _ Kb.out.h4
       have y4:=frozen_of_row W9 p4 4 _ _ Kb.out.h4
       have y5:=frozen_of_row W9 p4 5 _ _ Kb.out.h4
       have Kh:=hid (Kq.out.set 4 (.int .i64 t2))
       have Ki:=hid (Kr.out.set 4 (.int .i64 t2))
       have Ka:=hid (Kb.out.set4 t2)
       by_cases he2:e2=0
       ·have he2n:(e2 != 0)=false:=by simp;exact he2
        by_cases hend:b.length≤at2
        ·have hei:(b.length:Int)≤(at2:Int):=by omega
         have HF:=hid (show O=none from by rw [Kj.out,if_pos (.inr hend)])
         clear he2 hend
         go_upto_region 20 with fail
         clear a0 a1 a2 a3 a4 a5 a6 b0 b1 b2 b3 b4 b5 b6 z0 z1 z2 z3 z4 z5 z6 l2 l4 y0 y1 y2 y3 y4 y5
         generalize W9.setCell ⟨p4,4,none⟩ (.int .i64 (t2:Int))=W11 at Ka Kh Ki⊢
         obtain ⟨⟨a0,a1,a2,a3,a4,a5,a6⟩,⟨b0,b1,b2,b3,b4,b5,b6⟩,⟨z0,z1,z2,z3,z4,z5,z6⟩,l2,l4⟩:=Ka.out.cells
         have y0:=frozen_of_row W11 p4 0 _ _ Ka.out.h4
         have y1:=frozen_of_row W11 p4 1 _ _ Ka.out.h4
         have y2:=frozen_of_row W11 p4 2 _ _ Ka.out.h4
         have y3:=frozen_of_row W11 p4 3 _ _ Ka.out.h4
         have y4:=frozen_of_row W11 p4 4 _ _ Ka.out.h4
         have y5:=frozen_of_row W11 p4 5 _ _ Ka.out.h4
         have HO:=hid Ka.out.out
         go_wp2
         (try simp only [Exit.inBlock,Exit.then])
         refine bodyPost_ret (results_ent rfl _ _ p2 _ rfl rfl HO.out.1) rfl ?_
         exact ⟨_,_,_,_,_,_,_,_,_,_,by rw [HF.out];rfl,HO.out.2.1,fun ent p e=>by rw [HF.out] at e;cases e⟩
        ·have hei:¬(b.length:Int)≤(at2:Int):=by omega
         have HF:=hid (show O=some _ from by rw [Kj.out,if_neg (by omega)])
         have hal:at2<b.length:=by omega
         have ha0:(0:Int)≤(at2:Int):=by omega
         have hai:(at2:Int)<(b.length:Int):=by omega
         clear he2 hend
         go_upto_region 21 with fail
         clear a0 a1 a2 a3 a4 a5 a6 b0 b1 b2 b3 b4 b5 b6 z0 z1 z2 z3 z4 z5 z6 l2 l4 y0 y1 y2 y3 y4 y5
         generalize W9.setCell ⟨p4,4,none⟩ (.int .i64 (t2:Int))=W11 at Ka Kh Ki⊢
         have de:=(HV.out.keep Ka.out.upd).at_getD (j:=at2) hal
         generalize b.getD at2 0=kc at de HF
         have hk8:=kc.toNat_lt
         obtain ⟨⟨a0,a1,a2,a3,a4,a5,a6⟩,⟨b0,b1,b2,b3,b4,b5,b6⟩,⟨z0,z1,z2,z3,z4,z5,z6⟩,l2,l4⟩:=Ka.out.cells
         have y0:=frozen_of_row W11 p4 0 _ _ Ka.out.h4
         have y1:=frozen_of_row W11 p4 1 _ _ Ka.out.h4
         have y2:=frozen_of_row W11 p4 2 _ _ Ka.out.h4
         have y3:=frozen_of_row W11 p4 3 _ _ Ka.out.h4
         have y4:=frozen_of_row W11 p4 4 _ _ Ka.out.h4
         have y5:=frozen_of_row W11 p4 5 _ _ Ka.out.h4
         have Kk:=hid (Kh.out.set 5 (.int .i64 kc.toNat))
         have Kl:=hid (Ki.out.set 5 (.int .i64 kc.toNat))
         have Kd:=hid (Ka.out.set5 kc.toNat)
         go_upto_region 22 with fail
         clear a0 a1 a2 a3 a4 a5 a6 b0 b1 b2 b3 b4 b5 b6 z0 z1 z2 z3 z4 z5 z6 l2 l4 y0 y1 y2 y3 y4 y5
         generalize W11.setCell ⟨p4,5,none⟩ (.int .i64 (kc.toNat:Int))=W13 at Kd Kk Kl⊢
         clear de
         obtain ⟨⟨a0,a1,a2,a3,a4,a5,a6⟩,⟨b0,b1,b2,b3,b4,b5,b6⟩,⟨z0,z1,z2,z3,z4,z5,z6⟩,l2,l4⟩:=Kd.out.cells
         have y0:=frozen_of_row W13 p4 0 _ _ Kd.out.h4
         have y1:=frozen_of_row W13 p4 1 _ _ Kd.out.h4
         have y2:=frozen_of_row W13 p4 2 _ _ Kd.out.h4
         have y3:=frozen_of_row W13 p4 3 _ _ Kd.out.h4
         have y4:=frozen_of_row W13 p4 4 _ _ Kd.out.h4
         have y5:=frozen_of_row W13 p4 5 _ _ Kd.out.h4
         have HO:=hid Kd.out.out
         go_wp2
         (try simp only [Exit.inBlock,Exit.then])
         refine bodyPost_ret (results_ent rfl _ _ p2 _ rfl rfl HO.out.1) rfl ?_
         refine ⟨_,_,_,_,_,_,_,_,_,_,by rw [HF.out];rfl,HO.out.2.1,fun ent pp e=>?_⟩
         rw [HF.out] at e
         injection e with e
         injection e with e _
         subst e
         have hb1:=Kk.out.bat.upd HO.out.2.2 (fun k hk _ e=>(Kk.out.own k hk).1 e)
         have hb2:=Kl.out.bat.upd HO.out.2.2 (fun k hk _ e=>(Kl.out.own k hk).1 e)
         have hnr:=Zc.out
         subst hnr
         exact ⟨⟨_,_,_,_,rfl,hb1,hb2⟩⟩
       ·have he2n:(e2 != 0)=true:=by simp;exact he2
        have HF:=hid (show O=none from by rw [Kj.out,if_pos (.inl he2)])
        clear he2
        go_upto_region 20 with fail
        clear a0 a1 a2 a3 a4 a5 a6 b0 b1 b2 b3 b4 b5 b6 z0 z1 z2 z3 z4 z5 z6 l2 l4 y0 y1 y2 y3 y4 y5
        generalize W9.setCell ⟨p4,4,none⟩ (.int .i64 (t2:Int))=W11 at Ka Kh Ki⊢
        obtain ⟨⟨a0,a1,a2,a3,a4,a5,a6⟩,⟨b0,b1,b2,b3,b4,b5,b6⟩,⟨z0,z1,z2,z3,z4,z5,z6⟩,l2,l4⟩:=Ka.out.cells
        have y0:=frozen_of_row W11 p4 0 _ _ Ka.out.h4
        have y1:=frozen_of_row W11 p4 1 _ _ Ka.out.h4
        have y2:=frozen_of_row W11 p4 2 _ _ Ka.out.h4
        have y3:=frozen_of_row W11 p4 3 _ _ Ka.out.h4
        have y4:=frozen_of_row W11 p4 4 _ _ Ka.out.h4
        have y5:=frozen_of_row W11 p4 5 _ _ Ka.out.h4
        have HO:=hid Ka.out.out
        go_wp2
        (try simp only [Exit.inBlock,Exit.then])
        refine bodyPost_ret (results_ent rfl _ _ p2 _ rfl rfl HO.out.1) rfl ?_
        exact ⟨_,_,_,_,_,_,_,_,_,_,by rw [HF.out];rfl,HO.out.2.1,fun ent p e=>by rw [HF.out] at e;cases e⟩
      ·have he1n:(e1 != 0)=true:=by simp;exact he1
       have HF:=hid (show O=none from by rw [Ke.out,if_pos he1])
       clear he1
       go_upto_region 17 with fail
       clear a0 a1 a2 a3 a4 a5 a6 b0 b1 b2 b3 b4 b5 b6 z0 z1 z2 z3 z4 z5 z6 l2 l4 y0 y1 y2 y3 y4 y5
       generalize W7.setCell ⟨p4,3,none⟩ (.int .i64 (t1:Int))=W9 at Kb Kq Kr⊢
       obtain ⟨⟨a0,a1,a2,a3,a4,a5,a6⟩,⟨b0,b1,b2,b3,b4,b5,b6⟩,⟨z0,z1,z2,z3,z4,z5,z6⟩,l2,l4⟩:=Kb.out.cells
       have y0:=frozen_of_row W9 p4 0 _ _ Kb.out.h4
       have y1:=frozen_of_row W9 p4 1 _ _ Kb.out.h4
       have y2:=frozen_of_row W9 p4 2 _ _ Kb.out.h4
       have y3:=frozen_of_row W9 p4 3 _ _ Kb.out.h4
       have y4:=frozen_of_row W9 p4 4 _ _ Kb.out.h4
       have y5:=frozen_of_row W9 p4 5 _ _ Kb.out.h4
       have HO:=hid Kb.out.out
       go_wp2
       (try simp only [Exit.inBlock,Exit.then])
       refine bodyPost_ret (results_ent rfl _ _ p2 _ rfl rfl HO.out.1) rfl ?_
       exact ⟨_,_,_,_,_,_,_,_,_,_,by rw [HF.out];rfl,HO.out.2.1,fun ent p e=>by rw [HF.out] at e;cases e⟩
    ·have he6n:(e6 != 0)=true:=by simp;exact he6
     have HF:=hid (show O=none from by rw [Kn.out,if_pos (.inl he6)])
     clear he6
     have HO:=hid Kf.out.out
     go_wp2
     (try simp only [Exit.inBlock,Exit.then])
     refine bodyPost_ret (results_ent rfl _ _ p2 _ rfl rfl HO.out.1) rfl ?_
     exact ⟨_,_,_,_,_,_,_,_,_,_,by rw [HF.out];rfl,HO.out.2.1,fun ent p e=>by rw [HF.out] at e;cases e⟩
 ·have HF:=hid (show O=none from by rw [Kz.out,if_pos (.inl her)])
  have heri:(er != 0)=true:=by simp;exact her
  clear her
  have HO:=hid Kc.out.out
  go_wp2
  (try simp only [Exit.inBlock,Exit.then])
  refine bodyPost_ret (results_ent rfl _ _ p2 _ rfl rfl HO.out.1) rfl ?_
  exact ⟨_,_,_,_,_,_,_,_,_,_,by rw [HF.out];rfl,HO.out.2.1,fun ent p e=>by rw [HF.out] at e;cases e⟩
theorem entOut_at {W:World} {p:Nat} {r0 q0:Value} {f0 t0 s0 k0:Int} (h:W.heap[p]? = some (.cells (entC r0 f0 q0 t0 s0 k0) 215 (0,0))) (r:Value) (f:Int) (q:Value) (t s k:Int) :
  (entOut W p r f q t s k).heap[p]? = some (.cells (entC r f q t s k) 215 (0,0)):=by
 have h1:=heap_setCell_at W p 0 _ _ r h
 have h2:=heap_setCell_at _ p 1 _ _ (.int .i64 f) h1
 have h3:=heap_setCell_at _ p 2 _ _ q h2
 have h4:=heap_setCell_at _ p 3 _ _ (.int .i64 t) h3
 have h5:=heap_setCell_at _ p 4 _ _ (.int .i64 s) h4
 have h6:=heap_setCell_at _ p 5 _ _ (.int .i64 k) h5
 have h7:=heap_setCell_at _ p 6 _ _ (.slice none 0 0) h6
 rw [h7]
 simp [entC]
theorem entOut_upd {S:Nat→Prop} {w W:World} (h:Upd S w W) {p:Nat} (hp:p<w.heap.size→S p) (r:Value) (f:Int) (q:Value) (t s k:Int):Upd S w (entOut W p r f q t s k):=by
 have hp':∀j:Nat,(⟨p,j,none⟩:Addr).block<w.heap.size→S (⟨p,j,none⟩:Addr).block:=fun j e=>hp e
 exact ((((((h.setCell (hp' 0) _).setCell (hp' 1) _).setCell (hp' 2) _).setCell (hp' 3) _).setCell (hp' 4) _).setCell (hp' 5) _).setCell (hp' 6) _
theorem PW.outz {w W:World} {p2 p4:Nat} {r q:Value} {f t s k:Int} (h:PW w W p2 p4 r f q t s k) :
  (entOut W p2 (.slice none 0 0) 0 (.slice none 0 0) 0 0 0).heap[p2]? = some (.cells (entC (.slice none 0 0) 0 (.slice none 0 0) 0 0 0) 215 (0,0))∧Upd (fun _=>False) w (entOut W p2 (.slice none 0 0) 0 (.slice none 0 0) 0 0 0):=
 ⟨entOut_at h.h2 _ _ _ _ _ _,entOut_upd h.upd (fun e=>by have:=h.n2;omega) _ _ _ _ _ _⟩
theorem parseKey_any {w:World} {v:Value} {b:List UInt8} (hv:BAt w v b) (hl:b.length≤140737488351232) :
  Calls Tryz.prog 187 #[v] w fun e w'=>∃a1 n1 c1 f a2 n2 c2 t s k,e=.returned (.tuple #[.agg (entC (.slice a1 n1 c1) f (.slice a2 n2 c2) t s k),.int .i64 (if isKeyB b then 0 else 27)])∧Upd (fun _=>False) w w':=by
 have HV:=hid hv
 have hu0:=(Upd.refl (fun _=>False) w).alloc (.cells (entC (.slice none 0 0) 0 (.slice none 0 0) 0 0 0) 215)
 have Kf:=hid (parse_any (hv.keep hu0) hl)
 have Kh:=hid hu0
 have Ki:=hid (heap_alloc_new w (.cells (entC (.slice none 0 0) 0 (.slice none 0 0) 0 0 0) 215))
 obtain ⟨ao,cap,rfl,h1,h2,-,-⟩:=hv
 obtain ⟨R,hR⟩:∃R:Int,R=if isKeyB b then 0 else 27:=⟨_,rfl⟩
 rw [←hR]
 have HR:=hid hR
 unfold isKeyB at HR
 generalize parseP b=O at Kf HR
 clear hR hu0
 go_enter Tryz.func187,Tryz.ntmps187
 go_wp2_with fail
 refine Kf.out.mono ?_
 rintro e W ⟨a1,n1,c1,f,a2,n2,c2,t,s,k,rfl,hu,hent⟩
 have Kb:=hid hent
 have Kj:=hid (Kh.out.trans hu (fun _ _ e=>e))
 have HZ:=hid (hu.get Ki.out (fun e=>e))
 clear hu hent Kf
 go_upto_region 2 with fail
 have hpw:PW w (W.alloc (.cells (entC (.slice a1 n1 c1) f (.slice a2 n2 c2) t s k) 215)) w.heap.size W.heap.size (.slice a1 n1 c1) f (.slice a2 n2 c2) t s k:=by
  have hlt:w.heap.size<W.heap.size:=lt_of_heap HZ.out
  refine ⟨Kj.out.alloc _,?_,heap_alloc_new W _,Nat.le_refl _,by omega,by omega⟩
  rw [heap_alloc_past _ _ _ hlt]
  exact HZ.out
 have Ka:=hid hpw
 have Kc:=hid ((Upd.refl (fun _=>False) W).alloc (.cells (entC (.slice a1 n1 c1) f (.slice a2 n2 c2) t s k) 215))
 clear hpw
 change Hid (PW w (W.alloc (.cells #[.slice a1 n1 c1,.int .i64 f,.slice a2 n2 c2,.int .i64 t,.int .i64 s,.int .i64 k,.slice none 0 0] 215)) w.heap.size W.heap.size (.slice a1 n1 c1) f (.slice a2 n2 c2) t s k) at Ka
 change Hid (Upd (fun _=>False) W (W.alloc (.cells #[.slice a1 n1 c1,.int .i64 f,.slice a2 n2 c2,.int .i64 t,.int .i64 s,.int .i64 k,.slice none 0 0] 215))) at Kc
 generalize W.alloc (.cells #[.slice a1 n1 c1,.int .i64 f,.slice a2 n2 c2,.int .i64 t,.int .i64 s,.int .i64 k,.slice none 0 0] 215)=W2 at Ka Kc⊢
 obtain ⟨p2,hp2⟩:∃p2,p2=w.heap.size:=⟨_,rfl⟩
 obtain ⟨p4,hp4⟩:∃p4,p4=W.heap.size:=⟨_,rfl⟩
 rw [←hp4,←hp2] at Ka
 rw [←hp4,←hp2]
 have hne:p2≠p4:=Ka.out.ne
 have hne':p4≠p2:=hne.symm
 clear hp2 hp4 Ki Kh HZ
 obtain ⟨⟨a0,a1',a2',a3,a4,a5,a6⟩,⟨b0,b1,b2,b3,b4,b5,b6⟩,⟨z0,z1,z2,z3,z4,z5,z6⟩,l2,l4⟩:=Ka.out.cells
 rcases O with _|⟨ent,pp⟩
 ·have HF:=hid (show R=27 from HR.out)
  clear Kb
  have HO:=hid (Ka.out.outz)
  go_wp2
  (try simp only [Exit.inBlock,Exit.then])
  refine bodyPost_ret (results_ent rfl _ _ p2 _ rfl rfl HO.out.1) rfl ?_
  first|exact ⟨_,_,_,_,_,_,_,_,_,_,by rw [HF.out];rfl,HO.out.2⟩|exact HO.out.2|exact ⟨⟨_,_,_,_,_,_,_,_,_,_,by rw [HF.out];rfl⟩,HO.out.2⟩
 ·have HE:=hid (Kb.out ent pp rfl)
  have Kg:=hid (show R=if decide (ent.bad=0∧ent.key=b)=true then 0 else 27 from HR.out)
  clear Kb
  by_cases hbad:ent.bad=0
  ·have Kd:=hid (key_any (w:=W2) (⟨by obtain ⟨x1,x2,x3,x4,e1,e2,e3⟩:=HE.out.eq;exact ⟨x1,x2,x3,x4,e1,e2.keep Kc.out,e3.keep Kc.out⟩⟩:EntAt W2 _ ent) hbad)
   go_wp2_with fail
   refine Kd.out.mono ?_
   rintro e W3 ⟨vk,rfl,hnk⟩
   have Ke:=hid (Ka.out.keep hnk.upd)
   have Kk:=hid (equal_any hnk.data.bat.bytes (HV.out.keep Ke.out.upd).bytes)
   clear a0 a1' a2' a3 a4 a5 a6 b0 b1 b2 b3 b4 b5 b6 z0 z1 z2 z3 z4 z5 z6 l2 l4
   clear hnk Ka
   rename Hid (PW w W3 p2 p4 _ _ _ _ _ _)=>Ka
   obtain ⟨⟨a0,a1',a2',a3,a4,a5,a6⟩,⟨b0,b1,b2,b3,b4,b5,b6⟩,⟨z0,z1,z2,z3,z4,z5,z6⟩,l2,l4⟩:=Ka.out.cells
   go_wp2_with fail
   refine Kk.out.mono ?_
   rintro e W4 ⟨rfl,hww⟩
   obtain rfl:=hww.symm
   by_cases hk:ent.key=b
   ·have hkd:decide (ent.key=b)=true:=by simpa using hk
    rw [hkd]
    have HF:=hid (show R=0 from by rw [Kg.out,if_pos (by simp;exact ⟨hbad,hk⟩)])
    clear hk hkd hbad
    have HO:=hid Ka.out.out
    go_wp2
    (try simp only [Exit.inBlock,Exit.then])
    refine bodyPost_ret (results_ent rfl _ _ p2 _ rfl rfl HO.out.1) rfl ?_
    exact ⟨_,_,_,_,_,_,_,_,_,_,by rw [HF.out];rfl,HO.out.2.1⟩
   ·have hkd:decide (ent.key=b)=false:=by simpa using hk
    rw [hkd]
    have HF:=hid (show R=27 from by rw [Kg.out,if_neg (by simp;intro _;exact hk)])
    clear hk hkd hbad
    have HO:=hid (Ka.out.outz)
    go_wp2
    (try simp only [Exit.inBlock,Exit.then])
    refine bodyPost_ret (results_ent rfl _ _ p2 _ rfl rfl HO.out.1) rfl ?_
    first|exact ⟨_,_,_,_,_,_,_,_,_,_,by rw [HF.out];rfl,HO.out.2⟩|exact HO.out.2|exact ⟨⟨_,_,_,_,_,_,_,_,_,_,by rw [HF.out];rfl⟩,HO.out.2⟩
  ·have hbn:(ent.bad != 0)=true:=by simp;exact hbad
   have Kd:=hid (key_bad (w:=W2) HE.out.is hbad)
   have HF:=hid (show R=27 from by rw [Kg.out,if_neg (by simp;intro e;exact absurd e hbad)])
   generalize ent.bad=eb at Kd hbn
   clear hbad
   go_wp2_with fail
   refine Kd.out.mono ?_
   rintro e W3 ⟨rfl,huk⟩
   have Ke:=hid (Ka.out.keep huk)
   clear a0 a1' a2' a3 a4 a5 a6 b0 b1 b2 b3 b4 b5 b6 z0 z1 z2 z3 z4 z5 z6 l2 l4
   clear huk Ka
   rename Hid (PW w W3 p2 p4 _ _ _ _ _ _)=>Ka
   obtain ⟨⟨a0,a1',a2',a3,a4,a5,a6⟩,⟨b0,b1,b2,b3,b4,b5,b6⟩,⟨z0,z1,z2,z3,z4,z5,z6⟩,l2,l4⟩:=Ka.out.cells
   have HO:=hid (Ka.out.outz)
   go_wp2
   (try simp only [Exit.inBlock,Exit.then])
   refine bodyPost_ret (results_ent rfl _ _ p2 _ rfl rfl HO.out.1) rfl ?_
   first|exact ⟨_,_,_,_,_,_,_,_,_,_,by rw [HF.out];rfl,HO.out.2⟩|exact HO.out.2|exact ⟨⟨_,_,_,_,_,_,_,_,_,_,by rw [HF.out];rfl⟩,HO.out.2⟩
end Go.Proofs.YtgaidmohdhaonaaGreatDoor
