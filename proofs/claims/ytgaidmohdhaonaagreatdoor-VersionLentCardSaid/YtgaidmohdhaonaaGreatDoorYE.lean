/-
  Package manifest, walked: within, isKey.
  bytes.Compare, walked.
  Package manifest, walked: runFits.
  A map[int]bool that is only joined; a list of runs, a version, as they lie in memory.
-/
import Derived.Test.YtgaidmohdhaonaaGreatDoorYC
import Derived.Lib.BytesEntry
set_option linter.unusedVariables false
set_option linter.unusedSimpArgs false
set_option linter.unnecessarySimpa false
set_option linter.unusedSectionVars false
set_option maxRecDepth 100000
set_option maxHeartbeats 6400000
namespace Go.Proofs.YtgaidmohdhaonaaGreatDoor
open Go Go.RowKit
theorem within_any {w:World} {n lo hi:Int} : Calls Tryz.prog 129 #[.int .i64 n,.int .i64 lo,.int .i64 hi] w fun e w'=>e=.returned (.bool (decide (lo≤n∧n≤hi)))∧w'=w:=by
 by_cases h1:lo≤n
 ·by_cases h2:n≤hi
  ·have hd:decide (lo≤n∧n≤hi)=true:=by simp;omega
   rw [hd]
   clear hd
   go_enter Tryz.func129,Tryz.ntmps129
   go_wp2
   go_ret
   exact ⟨rfl,rfl⟩
  ·have hd:decide (lo≤n∧n≤hi)=false:=by simp;omega
   rw [hd]
   clear hd
   go_enter Tryz.func129,Tryz.ntmps129
   go_wp2
   go_ret
   exact ⟨rfl,rfl⟩
 ·have hd:decide (lo≤n∧n≤hi)=false:=by simp;omega
  rw [hd]
  clear hd
  go_enter Tryz.func129,Tryz.ntmps129
  go_wp2
  go_ret
  exact ⟨rfl,rfl⟩
theorem isKey_any {w:World} {v:Value} {b:List UInt8} (hv:BAt w v b) (hl:b.length≤140737488351232) :
  Calls Tryz.prog 169 #[v] w fun e w'=>e=.returned (.bool (isKeyB b))∧Upd (fun _=>False) w w':=by
 have HP:=hid (parseKey_any hv hl)
 cases hk:isKeyB b
 ·rw [hk] at HP
  clear hk
  go_enter Tryz.func169,Tryz.ntmps169
  go_wp2_with fail
  refine HP.out.mono ?_
  rintro e w1 ⟨x1,x2,x3,x4,x5,x6,x7,x8,x9,x0,rfl,hu⟩
  have HU:=hid (hu.alloc (.cells (entC (.slice x1 x2 x3) x4 (.slice x5 x6 x7) x8 x9 x0) 215))
  clear hu
  go_wp2
  go_ret
  exact ⟨rfl,HU.out⟩
 ·rw [hk] at HP
  clear hk
  go_enter Tryz.func169,Tryz.ntmps169
  go_wp2_with fail
  refine HP.out.mono ?_
  rintro e w1 ⟨x1,x2,x3,x4,x5,x6,x7,x8,x9,x0,rfl,hu⟩
  have HU:=hid (hu.alloc (.cells (entC (.slice x1 x2 x3) x4 (.slice x5 x6 x7) x8 x9 x0) 215))
  clear hu
  go_wp2
  go_ret
  exact ⟨rfl,HU.out⟩
theorem run_bytesOf {w:World} {v:Value} {bs:List UInt8} (h:BAt w v bs):(Extern.Bytes.bytesOf v).run Tryz.prog w=.ok (toBA bs) w:=by
 obtain ⟨ao,cap,rfl,-,-,h3,h4⟩:=h
 cases ao with
 | none=>
  obtain ⟨rfl,-⟩:=h3 rfl
  rfl
 | some a=>
  have hl:=Lib.run_loadBytesX (P:=Tryz.prog) w (bs.map fun c=>((c.toNat:Nat):Int)) a .empty (fun j x hx=>by
   rw [List.getElem?_map] at hx
   obtain ⟨c,hc,rfl⟩:=Option.map_eq_some_iff.1 hx
   obtain ⟨hj,rfl⟩:=List.getElem?_eq_some_iff.1 hc
   obtain ⟨g,o,e,-,hcell⟩:=h4 j hj
   injection e with e
   subst e
   rw [show (Addr.add ⟨g,o,none⟩ j:Addr)=⟨g,o+j,none⟩ from by simp [Addr.add_lit]]
   exact hcell)
  rw [List.length_map] at hl
  show (Extern.Bytes.loadBytes a bs.length .empty).run Tryz.prog w=_
  rw [hl]
  congr 1
  apply ByteArray.ext
  show (#[]:Array UInt8)++_=bs.toArray
  simp [Lib.bytesOf,Function.comp_def]
theorem run_compare {w:World} {v1 v2:Value} {b1 b2:List UInt8} (h1:BAt w v1 b1) (h2:BAt w v2 b2) :
  (Extern.BytealgCompare.compare #[v1,v2]).run Tryz.prog w=.ok (.int .i64 (Lib.compareBytes b1 b2)) w:=by
 change Sem.run Tryz.prog (do pure (goInt (Extern.BytealgCompare.cmp (←Extern.Bytes.bytesOf v1) (←Extern.Bytes.bytesOf v2)))) w=_
 simp only [Sem.run_bind,Sem.run_pure,run_bytesOf h1,run_bytesOf h2,Result.andThen]
 rw [Lib.cmp_eq]
 rfl
theorem compare_any {w:World} {v1 v2:Value} {b1 b2:List UInt8} (h1:BAt w v1 b1) (h2:BAt w v2 b2) :
  Calls Tryz.prog 170 #[v1,v2] w fun e w'=>e=.returned (.int .i64 (Lib.compareBytes b1 b2))∧w'=w:=by
 have HR:=hid (run_compare h1 h2)
 go_enter Tryz.func170,Tryz.ntmps170
 go_wp2
 rw [run_callFunc_extern Tryz.func188 (by kernel_rfl) (by kernel_rfl) (by kernel_rfl) (e:=Extern.BytealgCompare.compare) (by kernel_rfl),HR.out]
 simp only [Result.andThen]
 rw [Oper.upon_value]
 go_wp2
 go_ret
 exact ⟨rfl,rfl⟩
theorem compare_le:∀a b:List UInt8,decide (Lib.compareBytes a b≤0)=leL a b
 | [],[]=>rfl
 | [],_ :: _=>rfl
 | _ :: _,[]=>rfl
 | a :: l,b :: m=>by
  rw [Lib.compareBytes,leL]
  have e1:(a<b)=(a.toNat<b.toNat):=rfl
  have e2:(b<a)=(b.toNat<a.toNat):=rfl
  simp only [e1,e2]
  split
  ·rfl
  ·split
   ·rfl
   ·exact compare_le l m
structure MetaAt (w:World) (v:Value) (r:MetaA):Prop where
 eq:∃a1 c1 a2 c2,v=.agg #[.int .i64 r.num,.int .i64 r.count,.int .i64 r.index,.int .i64 r.low,.int .i64 r.clock,.int .i64 r.bytes,.slice a1 r.first.length c1,.slice a2 r.last.length c2]∧BAt w (.slice a1 r.first.length c1) r.first∧BAt w (.slice a2 r.last.length c2) r.last
def VerNums (v:Value) (x:VerA):Prop:=∃s u,v=.agg #[.int .i64 x.gen,.int .i64 x.flushed,.int .i64 x.next,.int .i64 x.low,.int .i64 x.clock,s,u]
theorem runFits_any {w:World} {v1 v2:Value} {x:VerA} {r:MetaA} (hx:VerNums v1 x) (hr:MetaAt w v2 r) (hn:1≤x.next) (hn2:x.next≤9223372036854775807) (hl1:r.first.length≤140737488351232) (hl2:r.last.length≤140737488351232) :
  Calls Tryz.prog 130 #[v1,v2] w fun e w'=>e=.returned (.bool (fitsA x r))∧Upd (fun _=>False) w w':=by
 obtain ⟨s,u,rfl⟩:=hx
 obtain ⟨a1,c1,a2,c2,rfl,hb1,hb2⟩:=hr.eq
 have Kj:=hid hb1;have Kk:=hid hb2
 clear hb1 hb2 hr
 go_enter Tryz.func130,Tryz.ntmps130
 go_upto_region 1 with fail
 have hsub:IntKind.i64.wrap (x.next-1)=x.next-1:=by rw [IntKind.wrap_i64];omega
 have HW:=hid (fun (W:World) (n lo hi:Int) (h:lo≤n∧n≤hi)=>show Calls Tryz.prog 129 #[.int .i64 n,.int .i64 lo,.int .i64 hi] W fun e w'=>e=.returned (.bool true)∧w'=W from by have h1:=within_any (w:=W) (n:=n) (lo:=lo) (hi:=hi);rwa [show decide (lo≤n∧n≤hi)=true from by simpa using h] at h1)
 have HN:=hid (fun (W:World) (n lo hi:Int) (h:¬(lo≤n∧n≤hi))=>show Calls Tryz.prog 129 #[.int .i64 n,.int .i64 lo,.int .i64 hi] W fun e w'=>e=.returned (.bool false)∧w'=W from by have h1:=within_any (w:=W) (n:=n) (lo:=lo) (hi:=hi);rwa [show decide (lo≤n∧n≤hi)=false from by simpa using h] at h1)
 go_cut [5] (fun b wx=>b=.bool (ins r.num 1 (x.next-1)&&decide (1≤r.count)&&ins r.index 0 x.flushed&&ins r.bytes 1 16777216)∧wx=((w.alloc (.cells #[.int .i64 x.gen,.int .i64 x.flushed,.int .i64 x.next,.int .i64 x.low,.int .i64 x.clock,s,u] 25)).alloc (.cells #[.int .i64 r.num,.int .i64 r.count,.int .i64 r.index,.int .i64 r.low,.int .i64 r.clock,.int .i64 r.bytes,.slice a1 r.first.length c1,.slice a2 r.last.length c2] 48)))
 case first=>
  have Ks:=hid (((Upd.refl (fun _=>False) w).alloc (.cells #[.int .i64 x.gen,.int .i64 x.flushed,.int .i64 x.next,.int .i64 x.low,.int .i64 x.clock,s,u] 25)).alloc (.cells #[.int .i64 r.num,.int .i64 r.count,.int .i64 r.index,.int .i64 r.low,.int .i64 r.clock,.int .i64 r.bytes,.slice a1 r.first.length c1,.slice a2 r.last.length c2] 48))
  by_cases h0:1≤r.num∧r.num≤(x.next-1)
  ·skip
   by_cases hc:1≤r.count
   ·skip
    by_cases h2:0≤r.index∧r.index≤x.flushed
    ·skip
     by_cases h3:1≤r.bytes∧r.bytes≤16777216
     ·skip
      go_wp2_with fail
      refine (HW.out _ _ _ _ h0).mono ?_
      rintro e wn ⟨rfl,hww⟩
      subst hww
      go_wp2_with fail
      refine (HW.out _ _ _ _ h2).mono ?_
      rintro e wn ⟨rfl,hww⟩
      subst hww
      go_wp2_with fail
      refine (HW.out _ _ _ _ h3).mono ?_
      rintro e wn ⟨rfl,hww⟩
      subst hww
      go_wp2
      go_meet
      case rel=>exact ⟨by first|(simp [ins, *];done)|(simp [ins];omega)|(simp [ins, *];omega),rfl⟩
     ·skip
      go_wp2_with fail
      refine (HW.out _ _ _ _ h0).mono ?_
      rintro e wn ⟨rfl,hww⟩
      subst hww
      go_wp2_with fail
      refine (HW.out _ _ _ _ h2).mono ?_
      rintro e wn ⟨rfl,hww⟩
      subst hww
      go_wp2_with fail
      refine (HN.out _ _ _ _ h3).mono ?_
      rintro e wn ⟨rfl,hww⟩
      subst hww
      go_wp2
      go_meet
      case rel=>exact ⟨by first|(simp [ins, *];done)|(simp [ins];omega)|(simp [ins, *];omega),rfl⟩
    ·skip
     go_wp2_with fail
     refine (HW.out _ _ _ _ h0).mono ?_
     rintro e wn ⟨rfl,hww⟩
     subst hww
     go_wp2_with fail
     refine (HN.out _ _ _ _ h2).mono ?_
     rintro e wn ⟨rfl,hww⟩
     subst hww
     go_wp2
     go_meet
     case rel=>exact ⟨by first|(simp [ins, *];done)|(simp [ins];omega)|(simp [ins, *];omega),rfl⟩
   ·skip
    go_wp2_with fail
    refine (HW.out _ _ _ _ h0).mono ?_
    rintro e wn ⟨rfl,hww⟩
    subst hww
    go_wp2
    go_meet
    case rel=>exact ⟨by first|(simp [ins, *];done)|(simp [ins];omega)|(simp [ins, *];omega),rfl⟩
  ·skip
   go_wp2_with fail
   refine (HN.out _ _ _ _ h0).mono ?_
   rintro e wn ⟨rfl,hww⟩
   subst hww
   go_wp2
   go_meet
   case rel=>exact ⟨by first|(simp [ins, *];done)|(simp [ins];omega)|(simp [ins, *];omega),rfl⟩
 case rest=>
  obtain ⟨hv5,hcw⟩:=hcut
  subst hcw
  obtain ⟨B1,hB1⟩:∃B1,B1=(ins r.num 1 (x.next-1)&&decide (1≤r.count)&&ins r.index 0 x.flushed&&ins r.bytes 1 16777216):=⟨_,rfl⟩
  rw [←hB1] at hv5
  subst hv5
  have Kl:=hid hB1
  clear hB1
  go_upto_region 2 with fail
  go_cut [6] (fun b wx=>b=.bool (ins r.clock 1 x.clock&&ins r.low 0 x.low&&decide (r.low<r.clock))∧wx=((w.alloc (.cells #[.int .i64 x.gen,.int .i64 x.flushed,.int .i64 x.next,.int .i64 x.low,.int .i64 x.clock,s,u] 25)).alloc (.cells #[.int .i64 r.num,.int .i64 r.count,.int .i64 r.index,.int .i64 r.low,.int .i64 r.clock,.int .i64 r.bytes,.slice a1 r.first.length c1,.slice a2 r.last.length c2] 48)))
  case first=>
   by_cases k0:1≤r.clock∧r.clock≤x.clock
   ·skip
    by_cases k1:0≤r.low∧r.low≤x.low
    ·skip
     by_cases hlt:r.low<r.clock
     ·skip
      go_wp2_with fail
      refine (HW.out _ _ _ _ k0).mono ?_
      rintro e wn ⟨rfl,hww⟩
      subst hww
      go_wp2_with fail
      refine (HW.out _ _ _ _ k1).mono ?_
      rintro e wn ⟨rfl,hww⟩
      subst hww
      go_wp2
      go_meet
      case rel=>exact ⟨by first|(simp [ins, *];done)|(simp [ins];omega)|(simp [ins, *];omega),rfl⟩
     ·skip
      go_wp2_with fail
      refine (HW.out _ _ _ _ k0).mono ?_
      rintro e wn ⟨rfl,hww⟩
      subst hww
      go_wp2_with fail
      refine (HW.out _ _ _ _ k1).mono ?_
      rintro e wn ⟨rfl,hww⟩
      subst hww
      go_wp2
      go_meet
      case rel=>exact ⟨by first|(simp [ins, *];done)|(simp [ins];omega)|(simp [ins, *];omega),rfl⟩
    ·skip
     go_wp2_with fail
     refine (HW.out _ _ _ _ k0).mono ?_
     rintro e wn ⟨rfl,hww⟩
     subst hww
     go_wp2_with fail
     refine (HN.out _ _ _ _ k1).mono ?_
     rintro e wn ⟨rfl,hww⟩
     subst hww
     go_wp2
     go_meet
     case rel=>exact ⟨by first|(simp [ins, *];done)|(simp [ins];omega)|(simp [ins, *];omega),rfl⟩
   ·skip
    go_wp2_with fail
    refine (HN.out _ _ _ _ k0).mono ?_
    rintro e wn ⟨rfl,hww⟩
    subst hww
    go_wp2
    go_meet
    case rel=>exact ⟨by first|(simp [ins, *];done)|(simp [ins];omega)|(simp [ins, *];omega),rfl⟩
  case rest=>
   obtain ⟨hv6,hcw⟩:=hcut
   subst hcw
   obtain ⟨B2,hB2⟩:∃B2,B2=(ins r.clock 1 x.clock&&ins r.low 0 x.low&&decide (r.low<r.clock)):=⟨_,rfl⟩
   rw [←hB2] at hv6
   subst hv6
   have HF:=hid (show fitsA x r=(B1&&B2&&(isKeyB r.first&&(isKeyB r.last&&leL r.first r.last))) from by unfold fitsA;rw [Kl.out,hB2])
   clear hB2
   have Ka:=hid (((Upd.refl (fun _=>False) w).alloc (.cells #[.int .i64 x.gen,.int .i64 x.flushed,.int .i64 x.next,.int .i64 x.low,.int .i64 x.clock,s,u] 25)).alloc (.cells #[.int .i64 r.num,.int .i64 r.count,.int .i64 r.index,.int .i64 r.low,.int .i64 r.clock,.int .i64 r.bytes,.slice a1 r.first.length c1,.slice a2 r.last.length c2] 48))
   have hrow:(((w.alloc (.cells #[.int .i64 x.gen,.int .i64 x.flushed,.int .i64 x.next,.int .i64 x.low,.int .i64 x.clock,s,u] 25)).alloc (.cells #[.int .i64 r.num,.int .i64 r.count,.int .i64 r.index,.int .i64 r.low,.int .i64 r.clock,.int .i64 r.bytes,.slice a1 r.first.length c1,.slice a2 r.last.length c2] 48))).heap[w.heap.size+1]? = some (.cells #[.int .i64 r.num,.int .i64 r.count,.int .i64 r.index,.int .i64 r.low,.int .i64 r.clock,.int .i64 r.bytes,.slice a1 r.first.length c1,.slice a2 r.last.length c2] 48 (0,0)):=by
    have h:=heap_alloc_new (w.alloc (.cells #[.int .i64 x.gen,.int .i64 x.flushed,.int .i64 x.next,.int .i64 x.low,.int .i64 x.clock,s,u] 25)) (.cells #[.int .i64 r.num,.int .i64 r.count,.int .i64 r.index,.int .i64 r.low,.int .i64 r.clock,.int .i64 r.bytes,.slice a1 r.first.length c1,.slice a2 r.last.length c2] 48)
    simpa using h
   have Kf:=hid (cell_of_row _ _ 6 _ _ _ hrow)
   have Km:=hid (cell_of_row _ _ 7 _ _ _ hrow)
   clear hrow
   have Kb:=hid (show w.heap.size+1<(((w.alloc (.cells #[.int .i64 x.gen,.int .i64 x.flushed,.int .i64 x.next,.int .i64 x.low,.int .i64 x.clock,s,u] 25)).alloc (.cells #[.int .i64 r.num,.int .i64 r.count,.int .i64 r.index,.int .i64 r.low,.int .i64 r.clock,.int .i64 r.bytes,.slice a1 r.first.length c1,.slice a2 r.last.length c2] 48))).heap.size from by simp)
   generalize ((w.alloc (.cells #[.int .i64 x.gen,.int .i64 x.flushed,.int .i64 x.next,.int .i64 x.low,.int .i64 x.clock,s,u] 25)).alloc (.cells #[.int .i64 r.num,.int .i64 r.count,.int .i64 r.index,.int .i64 r.low,.int .i64 r.clock,.int .i64 r.bytes,.slice a1 r.first.length c1,.slice a2 r.last.length c2] 48))=W0 at Ka Kf Km Kb⊢
   have Kp:=hid (isKey_any (w:=W0) (Kj.out.keep Ka.out) hl1)
   cases B1
   ·skip
    go_wp2
    go_ret
    exact ⟨by rw [HF.out];rfl,Ka.out⟩
   ·cases B2
    ·skip
     go_wp2
     go_ret
     exact ⟨by rw [HF.out];rfl,Ka.out⟩
    ·skip
     have hc6:=Kf.out
     go_wp2_with fail
     refine Kp.out.mono ?_
     rintro e w1 ⟨rfl,hu1⟩
     have Kg:=hid (Ka.out.trans hu1 (fun _ _ e=>e))
     have Kn:=hid (hu1.cell Kb.out Kf.out)
     have Kd:=hid (hu1.cell Kb.out Km.out)
     have Ke:=hid (Nat.lt_of_lt_of_le Kb.out hu1.size)
     clear hu1 hc6
     have Kq:=hid (isKey_any (w:=w1) (Kk.out.keep Kg.out) hl2)
     obtain ⟨k1,hk1⟩:∃k1,k1=isKeyB r.first:=⟨_,rfl⟩
     rw [←hk1] at HF⊢
     clear hk1
     cases k1
     ·skip
      go_wp2
      go_ret
      exact ⟨by rw [HF.out];rfl,Kg.out⟩
     ·skip
      have hc7:=Kd.out
      go_wp2_with fail
      refine Kq.out.mono ?_
      rintro e w2 ⟨rfl,hu2⟩
      have Kc:=hid (Kg.out.trans hu2 (fun _ _ e=>e))
      have Kh:=hid (hu2.cell Ke.out Kn.out)
      have Ki:=hid (hu2.cell Ke.out Kd.out)
      clear hu2 hc7
      have Ko:=hid (compare_any (w:=w2) (Kj.out.keep Kc.out) (Kk.out.keep Kc.out))
      obtain ⟨k2,hk2⟩:∃k2,k2=isKeyB r.last:=⟨_,rfl⟩
      rw [←hk2] at HF⊢
      clear hk2
      cases k2
      ·skip
       go_wp2
       go_ret
       exact ⟨by rw [HF.out];rfl,Kc.out⟩
      ·skip
       have hc6:=Kh.out
       have hc7:=Ki.out
       go_wp2_with fail
       refine Ko.out.mono ?_
       rintro e w3 ⟨rfl,rfl⟩
       clear hc6 hc7
       have Kr:=hid (compare_le r.first r.last)
       go_wp2
       go_ret
       exact ⟨by rw [HF.out,←Kr.out];rfl,Kc.out⟩
def kb (k:Int):Value×Value:=(.int .i64 k,.bool true)
def SetI (w:World) (m:Nat) (L:List Int):Prop:=∃es clock,w.heap[m]? = some (.map es clock)∧es.toList.map kv=L.map kb
theorem SetI.keep {w w':World} {m:Nat} {L:List Int} (h:SetI w m L) {S:Nat→Prop} (hu:Upd S w w') (hn:¬S m):SetI w' m L:=by
 obtain ⟨es,c,h1,h2⟩:=h
 exact ⟨es,c,hu.get h1 hn,h2⟩
theorem SetI.made (w:World):SetI (w.alloc (.map #[] 0)) w.heap.size []:=⟨#[],0,heap_alloc_new _ _,rfl⟩
theorem findNow_int (k:Int):∀(l:List MapEntry) (L:List Int) (i:Nat),l.map kv=L.map kb→
  (k∈L→∃n,Instr.findNow (.int .i64) (.int .i64 k) l i=some (some (n,.bool true)))∧(k∉L→Instr.findNow (.int .i64) (.int .i64 k) l i=some none)
 | [],L,i,h=>by
  cases L with
  | nil=>exact ⟨fun e=>by simp at e,fun _=>rfl⟩
  | cons p L=>simp at h
 | e :: l,L,i,h=>by
  cases L with
  | nil=>simp at h
  | cons p L=>
   simp only [List.map_cons,List.cons.injEq,kv,kb,Prod.mk.injEq] at h
   obtain ⟨⟨hk,hv⟩,ht⟩:=h
   have hs:Instr.sameNow (.int .i64) (.int .i64 k) e.key=some (decide (k=p)):=by rw [hk];simp only [Instr.sameNow,if_pos];by_cases h:k=p<;>simp [h]
   have ih:=findNow_int k l L (i+1) ht
   by_cases he:k=p
   ·refine ⟨fun _=>⟨i,?_⟩,fun hn=>absurd (by simp [he]) hn⟩
    simp only [Instr.findNow,hs];simp [he,hv]
   ·refine ⟨fun hm=>?_,fun hn=>?_⟩
    ·obtain ⟨n,hn⟩:=ih.1 (by simpa [he] using hm)
     exact ⟨n,by simp only [Instr.findNow,hs];simp [he,hn]⟩
    ·simp only [Instr.findNow,hs];simp [he,ih.2 (by simp only [List.mem_cons,not_or] at hn;exact hn.2)]
section
variable {P:Program} {w:World} {T K EL:TypeId} {m:Nat} {L:List Int}
theorem run_checkKey_int (hk:P.underlying K=some (.int .i64)) (b:Bool) (k:Int):(Instr.checkKey b 10000 K (.int .i64 k)).run P w=.ok () w:=by
 unfold Instr.checkKey
 simp only [Sem.run_bind,run_underlying hk,Result.andThen,Sem.run_pure]
theorem run_lookup_set (ht:P.underlying T=some (.map K EL)) (hk:P.underlying K=some (.int .i64)) (hz:∀w,(zeroValue EL).run P w=.ok (.bool false) w) (h:SetI w m L) (k:Int) :
  (Instr.lookup T (.map (some m)) (.int .i64 k) false).run P w=.ok (.bool (decide (k∈L))) w:=by
 obtain ⟨es,c,h1,h2⟩:=h
 have hf:=findNow_int k es.toList L 0 h2
 by_cases hm:k∈L
 ·obtain ⟨n,g1⟩:=hf.1 hm
  simp [Instr.lookup,run_underlying ht,MapKept.run_getObj_map h1,run_checkKey_int hk,MapKept.run_findKey hk g1,hz,Result.andThen,hm]
 ·have g1:=hf.2 hm
  simp [Instr.lookup,run_underlying ht,MapKept.run_getObj_map h1,run_checkKey_int hk,MapKept.run_findKey hk g1,hz,Result.andThen,hm]
theorem run_join_set (ht:P.underlying T=some (.map K EL)) (hk:P.underlying K=some (.int .i64)) (h:SetI w m L) (k:Int) (hm:k∉L) :
  ∃w',(Instr.mapUpdate T (.map (some m)) (.int .i64 k) (.bool true)).run P w=.ok () w'∧SetI w' m (L ++ [k])∧Upd (fun b=>b=m) w w':=by
 obtain ⟨es,c,h1,h2⟩:=h
 have g1:=(findNow_int k es.toList L 0 h2).2 hm
 refine ⟨{ w with heap:=w.heap.setIfInBounds m (.map (es.push { key:=.int .i64 k,val:=.bool true,born:=c }) (c+1)) },?_,⟨_,_,(MapKept.heap_set h1).1,?_⟩,Upd.block_only _ _ _⟩
 ·simp [Instr.mapUpdate,run_underlying ht,MapKept.run_getObj_map h1,run_checkKey_int hk,MapKept.run_findKey hk g1,MapKept.run_setObj_map _ h1,Result.andThen]
 ·simp only [Array.toList_push,List.map_append,List.map_cons,List.map_nil];rw [h2];rfl
end
def RunsAt (w:World) (v:Value) (l:List MetaA):Prop:=
 ∃ao cap,v=.slice ao l.length cap∧l.length≤cap∧cap≤9223372036854775807∧∀k (hk:k<l.length),∃b o f1 c1 f2 c2,ao=some ⟨b,o,none⟩∧b<w.heap.size∧
  w.cell? ⟨b,o+k*8,none⟩=some (.int .i64 l[k].num)∧w.cell? ⟨b,o+k*8+1,none⟩=some (.int .i64 l[k].count)∧w.cell? ⟨b,o+k*8+2,none⟩=some (.int .i64 l[k].index)∧
  w.cell? ⟨b,o+k*8+3,none⟩=some (.int .i64 l[k].low)∧w.cell? ⟨b,o+k*8+4,none⟩=some (.int .i64 l[k].clock)∧w.cell? ⟨b,o+k*8+5,none⟩=some (.int .i64 l[k].bytes)∧
  w.cell? ⟨b,o+k*8+6,none⟩=some (.slice f1 l[k].first.length c1)∧w.cell? ⟨b,o+k*8+7,none⟩=some (.slice f2 l[k].last.length c2)∧BAt w (.slice f1 l[k].first.length c1) l[k].first∧BAt w (.slice f2 l[k].last.length c2) l[k].last
theorem RunsAt.keep {w w':World} {v:Value} {l:List MetaA} (h:RunsAt w v l) (hu:Upd (fun _=>False) w w'):RunsAt w' v l:=by
 obtain ⟨ao,cap,e,h1,h2,h3⟩:=h
 refine ⟨ao,cap,e,h1,h2,fun k hk=>?_⟩
 obtain ⟨b,o,f1,c1,f2,c2,ha,hb,g0,g1,g2,g3,g4,g5,g6,g7,hB1,hB2⟩:=h3 k hk
 exact ⟨b,o,f1,c1,f2,c2,ha,Nat.lt_of_lt_of_le hb hu.size,hu.cell hb g0,hu.cell hb g1,hu.cell hb g2,hu.cell hb g3,hu.cell hb g4,hu.cell hb g5,hu.cell hb g6,hu.cell hb g7,hB1.keep hu,hB2.keep hu⟩
def VerAt (w:World) (v:Value) (x:VerA):Prop:=
 ∃s1 d1 s2 d2,v=.agg #[.int .i64 x.gen,.int .i64 x.flushed,.int .i64 x.next,.int .i64 x.low,.int .i64 x.clock,.slice s1 x.state.length d1,.slice s2 x.runs.length d2]∧BAt w (.slice s1 x.state.length d1) x.state∧RunsAt w (.slice s2 x.runs.length d2) x.runs
theorem VerAt.keep {w w':World} {v:Value} {x:VerA} (h:VerAt w v x) (hu:Upd (fun _=>False) w w'):VerAt w' v x:=by
 obtain ⟨s1,d1,s2,d2,e,h1,h2⟩:=h
 exact ⟨s1,d1,s2,d2,e,h1.keep hu,h2.keep hu⟩
theorem getD_at {α:Type} {l:List α} {k:Nat} {d:α} (hk:k<l.length):l.getD k d=l[k]:=by
 rw [List.getD_eq_getElem?_getD,List.getElem?_eq_getElem hk];rfl
theorem checkA_head {x:VerA} (h:headA x=false):checkA x=101:=by unfold checkA okA;rw [h];rfl
theorem checkA_run {x:VerA} {k:Nat} (hk:k<x.runs.length) (h:runOkA x k=false):checkA x=101:=by
 have:okA x=false:=by
  unfold okA
  have h2:(List.range x.runs.length).all (runOkA x)=false:=by
   rw [List.all_eq_false]
   exact ⟨k,by simpa using hk,by simp [h]⟩
  rw [h2,Bool.and_false]
 unfold checkA;rw [this];rfl
theorem checkA_ok {x:VerA} (hh:headA x=true) (h:∀j<x.runs.length,runOkA x j=true):checkA x=0:=by
 have:okA x=true:=by
  unfold okA
  rw [hh,Bool.true_and,List.all_eq_true]
  intro j hj
  exact h j (by simpa using hj)
 unfold checkA;rw [this];rfl
theorem headA_of {x:VerA} (h:headA x=true):(1≤x.next∧x.next≤1099511627776)∧x.state.length≤131072∧x.runs.length≤64:=by
 unfold headA ins at h
 simp only [Bool.and_eq_true,decide_eq_true_eq] at h
 exact ⟨h.1.1.1.1.2,h.1.2,h.2⟩
theorem runOkA_eq {x:VerA} {k:Nat} (hk:k<x.runs.length):runOkA x k=(fitsA x x.runs[k] && !(decide (x.runs[k].num∈(x.runs.take k).map MetaA.num))&&(decide (k=0) || behindA (x.runs.getD (k-1) zeroMeta) x.runs[k])):=by
 unfold runOkA
 rw [getD_at hk]
 congr 2
 congr 1
 rw [Bool.eq_iff_iff]
 simp only [List.any_eq_true,decide_eq_true_eq,List.mem_map]
theorem verCheck_any {w:World} {v:Value} {x:VerA} (hv:VerAt w v x) (hl:∀r∈x.runs,r.first.length≤140737488351232∧r.last.length≤140737488351232) :
  Calls Tryz.prog 67 #[v] w fun e w'=>e=.returned (.int .i64 (checkA x))∧Upd (fun _=>False) w w':=by
 obtain ⟨s1,d1,s2,d2,rfl,hb1,hb2⟩:=hv
 have Zo:=hid hb1;have Zh:=hid hb2;have Zi:=hid hl
 clear hb1 hb2 hl
 have HW:=hid (fun (W:World) (n lo hi:Int) (h:lo≤n∧n≤hi)=>show Calls Tryz.prog 129 #[.int .i64 n,.int .i64 lo,.int .i64 hi] W fun e w'=>e=.returned (.bool true)∧w'=W from by have h1:=within_any (w:=W) (n:=n) (lo:=lo) (hi:=hi);rwa [show decide (lo≤n∧n≤hi)=true from by simpa using h] at h1)
 have HN:=hid (fun (W:World) (n lo hi:Int) (h:¬(lo≤n∧n≤hi))=>show Calls Tryz.prog 129 #[.int .i64 n,.int .i64 lo,.int .i64 hi] W fun e w'=>e=.returned (.bool false)∧w'=W from by have h1:=within_any (w:=W) (n:=n) (lo:=lo) (hi:=hi);rwa [show decide (lo≤n∧n≤hi)=false from by simpa using h] at h1)
 have Kf:=hid ((Upd.refl (fun _=>False) w).alloc (.cells #[.int .i64 x.gen,.int .i64 x.flushed,.int .i64 x.next,.int .i64 x.low,.int .i64 x.clock,.slice s1 x.state.length d1,.slice s2 x.runs.length d2] 25))
 have hmm:=@run_makeMap Tryz.prog
 go_enter Tryz.func67,Tryz.ntmps67
 go_upto_region 1 with fail
 go_cut [49] (fun b wx=>b=.bool (!headA x)∧wx=(w.alloc (.cells #[.int .i64 x.gen,.int .i64 x.flushed,.int .i64 x.next,.int .i64 x.low,.int .i64 x.clock,.slice s1 x.state.length d1,.slice s2 x.runs.length d2] 25)))
 case first=>
  by_cases h0:1≤x.gen∧x.gen≤1099511627776
  ·skip
   by_cases h1:0≤x.flushed∧x.flushed≤1099511627776
   ·skip
    by_cases h2:1≤x.next∧x.next≤1099511627776
    ·skip
     by_cases h3:1≤x.clock∧x.clock≤1099511627776
     ·skip
      have hsub:IntKind.i64.wrap (x.clock-1)=x.clock-1:=by rw [IntKind.wrap_i64];omega
      by_cases h4:0≤x.low∧x.low≤(x.clock-1)
      ·skip
       by_cases h5:(131072:Int)<(x.state.length:Int)
       ·skip
        go_wp2_with fail
        refine (HW.out _ _ _ _ h0).mono ?_
        rintro e wn ⟨rfl,hww⟩
        subst hww
        go_wp2_with fail
        refine (HW.out _ _ _ _ h1).mono ?_
        rintro e wn ⟨rfl,hww⟩
        subst hww
        go_wp2_with fail
        refine (HW.out _ _ _ _ h2).mono ?_
        rintro e wn ⟨rfl,hww⟩
        subst hww
        go_wp2_with fail
        refine (HW.out _ _ _ _ h3).mono ?_
        rintro e wn ⟨rfl,hww⟩
        subst hww
        go_wp2_with fail
        refine (HW.out _ _ _ _ h4).mono ?_
        rintro e wn ⟨rfl,hww⟩
        subst hww
        go_wp2
        go_meet
        case rel=>exact ⟨by (try clear hsub);first|(simp [headA,ins, *];done)|(simp [headA,ins];omega)|(simp [headA,ins, *];omega),rfl⟩
       ·skip
        by_cases h6:(64:Int)<(x.runs.length:Int)
        ·skip
         go_wp2_with fail
         refine (HW.out _ _ _ _ h0).mono ?_
         rintro e wn ⟨rfl,hww⟩
         subst hww
         go_wp2_with fail
         refine (HW.out _ _ _ _ h1).mono ?_
         rintro e wn ⟨rfl,hww⟩
         subst hww
         go_wp2_with fail
         refine (HW.out _ _ _ _ h2).mono ?_
         rintro e wn ⟨rfl,hww⟩
         subst hww
         go_wp2_with fail
         refine (HW.out _ _ _ _ h3).mono ?_
         rintro e wn ⟨rfl,hww⟩
         subst hww
         go_wp2_with fail
         refine (HW.out _ _ _ _ h4).mono ?_
         rintro e wn ⟨rfl,hww⟩
         subst hww
         go_wp2
         go_meet
         case rel=>exact ⟨by (try clear hsub);first|(simp [headA,ins, *];done)|(simp [headA,ins];omega)|(simp [headA,ins, *];omega),rfl⟩
        ·skip
         go_wp2_with fail
         refine (HW.out _ _ _ _ h0).mono ?_
         rintro e wn ⟨rfl,hww⟩
         subst hww
         go_wp2_with fail
         refine (HW.out _ _ _ _ h1).mono ?_
         rintro e wn ⟨rfl,hww⟩
         subst hww
         go_wp2_with fail
         refine (HW.out _ _ _ _ h2).mono ?_
         rintro e wn ⟨rfl,hww⟩
         subst hww
         go_wp2_with fail
         refine (HW.out _ _ _ _ h3).mono ?_
         rintro e wn ⟨rfl,hww⟩
         subst hww
         go_wp2_with fail
         refine (HW.out _ _ _ _ h4).mono ?_
         rintro e wn ⟨rfl,hww⟩
         subst hww
         have Zj:=hid (show headA x=true from by unfold headA ins;simp only [Bool.and_eq_true,decide_eq_true_eq];exact ⟨⟨⟨⟨⟨⟨h0,h1⟩,h2⟩,h3⟩,h4⟩,by omega⟩,by omega⟩)
         go_wp2
         go_meet
         case rel=>exact ⟨by rw [Zj.out];simp;omega,rfl⟩
      ·skip
       go_wp2_with fail
       refine (HW.out _ _ _ _ h0).mono ?_
       rintro e wn ⟨rfl,hww⟩
       subst hww
       go_wp2_with fail
       refine (HW.out _ _ _ _ h1).mono ?_
       rintro e wn ⟨rfl,hww⟩
       subst hww
       go_wp2_with fail
       refine (HW.out _ _ _ _ h2).mono ?_
       rintro e wn ⟨rfl,hww⟩
       subst hww
       go_wp2_with fail
       refine (HW.out _ _ _ _ h3).mono ?_
       rintro e wn ⟨rfl,hww⟩
       subst hww
       go_wp2_with fail
       refine (HN.out _ _ _ _ h4).mono ?_
       rintro e wn ⟨rfl,hww⟩
       subst hww
       go_wp2
       go_meet
       case rel=>exact ⟨by (try clear hsub);first|(simp [headA,ins, *];done)|(simp [headA,ins];omega)|(simp [headA,ins, *];omega),rfl⟩
     ·skip
      go_wp2_with fail
      refine (HW.out _ _ _ _ h0).mono ?_
      rintro e wn ⟨rfl,hww⟩
      subst hww
      go_wp2_with fail
      refine (HW.out _ _ _ _ h1).mono ?_
      rintro e wn ⟨rfl,hww⟩
      subst hww
      go_wp2_with fail
      refine (HW.out _ _ _ _ h2).mono ?_
      rintro e wn ⟨rfl,hww⟩
      subst hww
      go_wp2_with fail
      refine (HN.out _ _ _ _ h3).mono ?_
      rintro e wn ⟨rfl,hww⟩
      subst hww
      go_wp2
      go_meet
      case rel=>exact ⟨by (try clear hsub);first|(simp [headA,ins, *];done)|(simp [headA,ins];omega)|(simp [headA,ins, *];omega),rfl⟩
    ·skip
     go_wp2_with fail
     refine (HW.out _ _ _ _ h0).mono ?_
     rintro e wn ⟨rfl,hww⟩
     subst hww
     go_wp2_with fail
     refine (HW.out _ _ _ _ h1).mono ?_
     rintro e wn ⟨rfl,hww⟩
     subst hww
     go_wp2_with fail
     refine (HN.out _ _ _ _ h2).mono ?_
     rintro e wn ⟨rfl,hww⟩
     subst hww
     go_wp2
     go_meet
     case rel=>exact ⟨by (try clear hsub);first|(simp [headA,ins, *];done)|(simp [headA,ins];omega)|(simp [headA,ins, *];omega),rfl⟩
   ·skip
    go_wp2_with fail
    refine (HW.out _ _ _ _ h0).mono ?_
    rintro e wn ⟨rfl,hww⟩
    subst hww
    go_wp2_with fail
    refine (HN.out _ _ _ _ h1).mono ?_
    rintro e wn ⟨rfl,hww⟩
    subst hww
    go_wp2
    go_meet
    case rel=>exact ⟨by (try clear hsub);first|(simp [headA,ins, *];done)|(simp [headA,ins];omega)|(simp [headA,ins, *];omega),rfl⟩
  ·skip
   go_wp2_with fail
   refine (HN.out _ _ _ _ h0).mono ?_
   rintro e wn ⟨rfl,hww⟩
   subst hww
   go_wp2
   go_meet
   case rel=>exact ⟨by (try clear hsub);first|(simp [headA,ins, *];done)|(simp [headA,ins];omega)|(simp [headA,ins, *];omega),rfl⟩
 case rest=>
  obtain ⟨hv49,hcw⟩:=hcut
  subst hcw
  obtain ⟨B,hB⟩:∃B,B = !headA x:=⟨_,rfl⟩
  rw [←hB] at hv49
  subst hv49
  cases B
  rotate_left
  ·skip
   have HR:=hid (checkA_head (by simpa using hB.symm))
   clear hB
   go_wp2
   go_ret
   exact ⟨by rw [HR.out];rfl,Kf.out⟩
  have hh:headA x=true:=by simpa using hB.symm
  have HH:=hid hh
  have Ks:=hid (headA_of hh)
  clear hh
  clear hB
  have hrow0:=hid (show (w.alloc (.cells #[.int .i64 x.gen,.int .i64 x.flushed,.int .i64 x.next,.int .i64 x.low,.int .i64 x.clock,.slice s1 x.state.length d1,.slice s2 x.runs.length d2] 25)).heap[w.heap.size]? = some (.cells #[.int .i64 x.gen,.int .i64 x.flushed,.int .i64 x.next,.int .i64 x.low,.int .i64 x.clock,.slice s1 x.state.length d1,.slice s2 x.runs.length d2] 25 (0,0)) from heap_alloc_new _ _)
  obtain ⟨ao,cap,e,hcap1,hcap2,hcells⟩:=Zh.out.keep Kf.out
  injection e with e1 e2 e3
  subst e1
  subst e3
  clear e2
  obtain ⟨q,hq⟩:∃q,q=w.heap.size:=⟨_,rfl⟩
  rw [←hq] at hrow0
  obtain ⟨W0,hW0⟩:∃W0,W0=(w.alloc (.cells #[.int .i64 x.gen,.int .i64 x.flushed,.int .i64 x.next,.int .i64 x.low,.int .i64 x.clock,.slice s1 x.state.length d1,.slice s2 x.runs.length d2] 25)):=⟨_,rfl⟩
  rw [←hW0] at hrow0 Kf hcells⊢
  rw [←hq]
  have Zk:=hid (show W0.heap.size=q+1 from by rw [hW0,hq];simp)
  have Ky:=hid hcells
  clear hW0 hq hcells
  have b6:=cell_of_row W0 q 6 _ _ _ hrow0.out
  have hql0:q<W0.heap.size:=by have:=Zk.out;omega
  have hql:q<W0.heap.size+1:=by omega
  obtain ⟨m,hm⟩:∃m,m=W0.heap.size:=⟨_,rfl⟩
  have HM:=hid hm
  obtain ⟨W1,hW1⟩:∃W1,W1=W0.alloc (.map #[] 0):=⟨_,rfl⟩
  have Kz:=hid hW1
  have Zl:=hid (show SetI W1 m [] from by rw [hW1,hm];exact SetI.made W0)
  have Za:=hid (show Upd (fun _=>False) W0 W1 from by rw [hW1];exact (Upd.refl _ _).alloc _)
  clear hW1 hm
  have Zm:=hid (fun (W:World) (L:List Int) (h:SetI W m L) (n:Int)=>run_lookup_set (P:=Tryz.prog) Tryz.underlying190 Tryz.underlying3 (fun _=>by kernel_rfl) h n)
  have Zn:=hid (fun (W:World) (L:List Int) (h:SetI W m L) (n:Int) (hn:n∉L)=>run_join_set (P:=Tryz.prog) Tryz.underlying190 Tryz.underlying3 h n hn)
  go_wp2
  rw [←HM.out]
  go_loopw [54] (fun i wr=>∃k:Nat,k≤x.runs.length∧i=.int .i64 k∧SetI wr m ((x.runs.take k).map MetaA.num)∧Upd (fun b=>b=m) W1 wr∧∀j<k,runOkA x j=true) (fun i _=>x.runs.length-(intOf i).toNat)
  case atStart=>exact ⟨0,Nat.zero_le _,rfl,by rw [←Kz.out];exact Zl.out,by rw [←Kz.out];exact Upd.refl _ _,fun j hj=>absurd hj (by omega)⟩
  case round=>
   obtain ⟨k,hk,rfl,hset,hup,hok⟩:=hrel
   have Ko:=hid hset;have Zb:=hid hup;have Kt:=hid hok
   clear hset hup hok b6 hql hql0 hmm
   have Ka:=hid (Za.out.trans Zb.out (fun b hb e=>by have:=HM.out;omega))
   have Ku:=hid (Kf.out.trans Ka.out (fun _ _ e=>e))
   have Kc:=hid (Ka.out.get hrow0.out (fun e=>e))
   have hqw:q<wr.heap.size:=lt_of_heap Kc.out
   have hqw1:q<wr.heap.size+1:=by omega
   by_cases hlt:k<x.runs.length
   ·obtain ⟨b,o,f1,c1,f2,c2,hs2,hb,g0,g1,g2,g3,g4,g5,g6,g7,hB1,hB2⟩:=Ky.out k hlt
    subst hs2
    have hm:x.runs[k]∈x.runs:=List.getElem_mem hlt
    have Kv:=hid (Zi.out _ hm)
    have Kg:=hid (runOkA_eq hlt)
    have Kp:=hid (show (x.runs.take (k+1)).map MetaA.num=(x.runs.take k).map MetaA.num ++ [x.runs[k].num] from by rw [List.take_succ_eq_append_getElem hlt,List.map_append];rfl)
    obtain ⟨r,hr⟩:∃r,r=x.runs[k]:=⟨_,rfl⟩
    rw [←hr] at g0 g1 g2 g3 g4 g5 g6 g7 hB1 hB2 Kv Kg Kp
    have u0:=Ka.out.cell hb g0;have u1:=Ka.out.cell hb g1;have u2:=Ka.out.cell hb g2;have u3:=Ka.out.cell hb g3
    have u4:=Ka.out.cell hb g4;have u5:=Ka.out.cell hb g5;have u6:=Ka.out.cell hb g6;have u7:=Ka.out.cell hb g7
    have hbw:b<wr.heap.size:=Nat.lt_of_lt_of_le hb Ka.out.size
    have v0:=cell_of_row wr q 0 _ _ _ Kc.out;have v1:=cell_of_row wr q 1 _ _ _ Kc.out;have v2:=cell_of_row wr q 2 _ _ _ Kc.out;have v3:=cell_of_row wr q 3 _ _ _ Kc.out
    have v4:=cell_of_row wr q 4 _ _ _ Kc.out;have v5:=cell_of_row wr q 5 _ _ _ Kc.out;have v6:=cell_of_row wr q 6 _ _ _ Kc.out
    have Kn:=hid ((Upd.refl (fun _=>False) wr).alloc (.cells #[.int .i64 r.num,.int .i64 r.count,.int .i64 r.index,.int .i64 r.low,.int .i64 r.clock,.int .i64 r.bytes,.slice f1 r.first.length c1,.slice f2 r.last.length c2] 48))
    have HF:=hid (show Calls Tryz.prog 130 #[(.agg #[.int .i64 x.gen,.int .i64 x.flushed,.int .i64 x.next,.int .i64 x.low,.int .i64 x.clock,.slice s1 x.state.length d1,.slice (some ⟨b,o,none⟩) x.runs.length d2]),(.agg #[.int .i64 r.num,.int .i64 r.count,.int .i64 r.index,.int .i64 r.low,.int .i64 r.clock,.int .i64 r.bytes,.slice f1 r.first.length c1,.slice f2 r.last.length c2])] (wr.alloc (.cells #[.int .i64 r.num,.int .i64 r.count,.int .i64 r.index,.int .i64 r.low,.int .i64 r.clock,.int .i64 r.bytes,.slice f1 r.first.length c1,.slice f2 r.last.length c2] 48)) fun e w'=>e=.returned (.bool (fitsA x r))∧Upd (fun _=>False) (wr.alloc (.cells #[.int .i64 r.num,.int .i64 r.count,.int .i64 r.index,.int .i64 r.low,.int .i64 r.clock,.int .i64 r.bytes,.slice f1 r.first.length c1,.slice f2 r.last.length c2] 48)) w' from runFits_any ⟨_,_,rfl⟩ ⟨f1,c1,f2,c2,rfl,(hB1.keep Ka.out).keep Kn.out,(hB2.keep Ka.out).keep Kn.out⟩ Ks.out.1.1 (by have:=Ks.out.1.2;omega) Kv.out.1 Kv.out.2)
    have Kq:=hid (heap_alloc_new wr (.cells #[.int .i64 r.num,.int .i64 r.count,.int .i64 r.index,.int .i64 r.low,.int .i64 r.clock,.int .i64 r.bytes,.slice f1 r.first.length c1,.slice f2 r.last.length c2] 48))
    clear g0 g1 g2 g3 g4 g5 g6 g7 hB1 hB2 hm hr
    obtain ⟨b5,hb5⟩:∃b5,b5=wr.heap.size:=⟨_,rfl⟩
    rw [←hb5] at Kq
    have Zc:=hid hb5
    clear hb5
    obtain ⟨F,hF⟩:∃F,F=fitsA x r:=⟨_,rfl⟩
    rw [←hF] at HF Kg
    clear hF
    cases F
    ·skip
     have HR:=hid (checkA_run hlt (by rw [Kg.out];rfl))
     go_wp2_with fail
     refine HF.out.mono ?_
     rintro e w2 ⟨rfl,hu2⟩
     have Kh:=hid ((Ku.out.trans Kn.out (fun _ _ e=>e)).trans hu2 (fun _ _ e=>e))
     clear hu2
     go_wp2
     go_ret
     exact ⟨by rw [HR.out];rfl,Kh.out⟩
    go_wp2_with fail
    refine HF.out.mono ?_
    rintro e w2 ⟨rfl,hu2⟩
    rw [←Zc.out]
    have Kh:=hid (Kn.out.trans hu2 (fun _ _ e=>e))
    have Ki:=hid (hu2.get Kq.out (fun e=>e))
    have Kj:=hid (Ko.out.keep Kh.out (fun e=>e))
    have h5lt:b5<w2.heap.size:=lt_of_heap Ki.out
    have z0:=cell_of_row w2 b5 0 _ _ _ Ki.out
    have hlk:=Zm.out w2 _ Kj.out r.num
    clear hu2 u0 u1 u2 u3 u4 u5 u6 u7 v0 v1 v2 v3 v4 v5 v6
    by_cases hmem:r.num∈(x.runs.take k).map MetaA.num
    ·have HR:=hid (checkA_run hlt (by rw [Kg.out,decide_eq_true hmem];rfl))
     rw [decide_eq_true hmem] at hlk
     clear hmem
     go_wp2
     go_ret
     exact ⟨by rw [HR.out];rfl,Ku.out.trans Kh.out (fun _ _ e=>e)⟩
    rw [decide_eq_false hmem] at hlk
    obtain ⟨w3,hjoin,hset3,hu3⟩:=Zn.out w2 _ Kj.out r.num hmem
    rw [←Kp.out] at hset3
    have Kr:=hid (show runOkA x k=(decide (k=0) || behindA (x.runs.getD (k-1) zeroMeta) r) from by rw [Kg.out,decide_eq_false hmem];rfl)
    clear hmem
    have Zd:=hid (show b5≠m from fun e=>by have h1:=Zc.out;have h2:=HM.out;have h3:=Ka.out.size;have h4:=Ko.out;obtain ⟨_,_,h5,_⟩:=h4;have:=lt_of_heap h5;omega)
    have Kd:=hid (hu3.get Ki.out Zd.out)
    have Kw:=hid (show Upd (fun b=>b=m) W1 w3 from (Zb.out.trans (Kh.out.mono (T:=fun b=>b=m) (fun _ _ e=>e.elim)) (fun _ _ e=>e)).trans hu3 (fun _ _ e=>e))
    have Kb:=hid (Za.out.trans Kw.out (fun b hb e=>by have:=HM.out;omega))
    have Ze:=hid (Kf.out.trans Kb.out (fun _ _ e=>e))
    have Kk:=hid hset3
    have h5l:b5<w3.heap.size:=lt_of_heap Kd.out
    clear hset3 hu3
    by_cases hk0:k=0
    ·have hkb:(((k:Nat):Int)==0)=true:=by rw [hk0];rfl
     have Kl:=hid (show ∀j<k+1,runOkA x j=true from by
      intro j hj
      rcases Nat.lt_succ_iff_lt_or_eq.1 hj with h|rfl
      ·exact Kt.out j h
      ·rw [Kr.out];simp [hk0])
     clear hk0
     go_wp2
     go_roundw
     case rel=>exact ⟨k+1,by omega,by simp,Kk.out,Kw.out,Kl.out⟩
     case measure=>simp [intOf];omega
    have hkb:(((k:Nat):Int)==0)=false:=by simpa using hk0
    obtain ⟨j,hkj⟩:∃j,k=j+1:=⟨k-1,by omega⟩
    have hjk:IntKind.i64.wrap ((k:Int)-1)=(j:Int):=by rw [IntKind.wrap_i64];have:=Ks.out.2.2;omega
    have hjk2:(k:Int)-1=(j:Int):=by omega
    have hjl:j<x.runs.length:=by omega
    obtain ⟨b',o',y1,e1,y2,e2,hs2,hb',g0,g1,g2,g3,g4,g5,g6,g7,-,-⟩:=Ky.out j hjl
    injection hs2 with hs2
    injection hs2 with hs21 hs22
    subst hs21
    subst hs22
    have Zf:=hid (show x.runs.getD (k-1) zeroMeta=x.runs[j] from by rw [hkj,Nat.add_sub_cancel];exact getD_at hjl)
    obtain ⟨p,hp⟩:∃p,p=x.runs[j]:=⟨_,rfl⟩
    rw [←hp] at g0 g1 g2 g3 g4 g5 g6 g7 Zf
    have u0:=Kb.out.cell hb' g0;have u1:=Kb.out.cell hb' g1;have u2:=Kb.out.cell hb' g2;have u3:=Kb.out.cell hb' g3
    have u4:=Kb.out.cell hb' g4;have u5:=Kb.out.cell hb' g5;have u6:=Kb.out.cell hb' g6;have u7:=Kb.out.cell hb' g7
    have hbw3:b<w3.heap.size:=Nat.lt_of_lt_of_le hb Kb.out.size
    have hqr:=Kb.out.get hrow0.out (fun e=>e)
    have t6:=cell_of_row w3 q 6 _ _ _ hqr
    have hq3:q<w3.heap.size:=lt_of_heap hqr
    have z2:=cell_of_row w3 b5 2 _ _ _ Kd.out;have z3:=cell_of_row w3 b5 3 _ _ _ Kd.out;have z4:=cell_of_row w3 b5 4 _ _ _ Kd.out
    have Km:=hid (Ze.out.alloc (.cells #[.int .i64 p.num,.int .i64 p.count,.int .i64 p.index,.int .i64 p.low,.int .i64 p.clock,.int .i64 p.bytes,.slice y1 p.first.length e1,.slice y2 p.last.length e2] 48))
    have Zg:=hid (Kw.out.alloc (.cells #[.int .i64 p.num,.int .i64 p.count,.int .i64 p.index,.int .i64 p.low,.int .i64 p.clock,.int .i64 p.bytes,.slice y1 p.first.length e1,.slice y2 p.last.length e2] 48))
    have Kx:=hid (Kk.out.keep ((Upd.refl (fun _=>False) w3).alloc (.cells #[.int .i64 p.num,.int .i64 p.count,.int .i64 p.index,.int .i64 p.low,.int .i64 p.clock,.int .i64 p.bytes,.slice y1 p.first.length e1,.slice y2 p.last.length e2] 48)) (fun e=>e))
    have Ke:=hid (show runOkA x k=behindA p r from by rw [Kr.out,Zf.out];simp [hk0])
    have Zp:=hid hlt
    clear g0 g1 g2 g3 g4 g5 g6 g7 hqr hkj hk0 hp Kc hqw hqw1 hbw
    by_cases h1:p.index≤r.index
    ·have HR:=hid (checkA_run hlt (by rw [Ke.out];unfold behindA;simp;omega))
     go_wp2
     go_ret
     exact ⟨by rw [HR.out];rfl,Km.out⟩
    by_cases h2:p.clock<r.clock
    ·have HR:=hid (checkA_run hlt (by rw [Ke.out];unfold behindA;simp;omega))
     go_wp2
     go_ret
     exact ⟨by rw [HR.out];rfl,Km.out⟩
    by_cases h3:p.low<r.low
    ·have HR:=hid (checkA_run hlt (by rw [Ke.out];unfold behindA;simp;omega))
     go_wp2
     go_ret
     exact ⟨by rw [HR.out];rfl,Km.out⟩
    have Kl:=hid (show ∀j<k+1,runOkA x j=true from by
     intro j hj
     rcases Nat.lt_succ_iff_lt_or_eq.1 hj with h|rfl
     ·exact Kt.out j h
     ·rw [Ke.out];unfold behindA;simp;omega)
    go_wp2
    go_roundw
    case rel=>exact ⟨k+1,by omega,by simp,Kx.out,Zg.out,Kl.out⟩
    case measure=>simp [intOf];omega
   ·obtain rfl:k=x.runs.length:=by omega
    have HR:=hid (checkA_ok HH.out Kt.out)
    go_wp2
    go_ret
    exact ⟨by rw [HR.out];rfl,Ku.out⟩
structure PutS (w0 W:World) (q:Nat) (v:Value) (bs:List UInt8):Prop where
 box:W.heap[q]? = some (.cells #[v] 22 (0,0))
 data:NewB w0 W v bs
 ne:∀k,v.ownBlock=some k→k≠q
 low:w0.heap.size≤q
theorem PutS.drew {w0 W:World} {q:Nat} {v:Value} {bs:List UInt8} (h:PutS w0 W q v bs):PutS w0 W.drew q v bs:=
 ⟨h.box,h.data.keep ((Upd.refl (fun _=>False) W).drew),h.ne,h.low⟩
theorem PutS.keep {w0 W W1:World} {q:Nat} {v:Value} {bs:List UInt8} (h:PutS w0 W q v bs) (hu:Upd (fun _=>False) W W1):PutS w0 W1 q v bs:=
 ⟨hu.get h.box (fun e=>e),h.data.keep hu,h.ne,h.low⟩
def PutNext (w0 W:World) (q:Nat) (v:Value) (bs news:List UInt8) (e:Ending) (W1:World):Prop:=
 ∃sa sl sc ao L cap w2,e=.returned (.slice sa sl sc)∧W1.cell? ⟨q,0,none⟩=some v∧q<W1.heap.size∧
  (Builtin.append_ #[22,22] 22 #[v,.slice sa sl sc]).run Tryz.prog W1=.ok (.slice ao L cap) w2∧w2.cell? ⟨q,0,none⟩=some v∧w2.frozen? ⟨q,0,none⟩=false∧q<w2.heap.size∧
  Hid (PutS w0 (w2.setCell ⟨q,0,none⟩ (.slice ao L cap)) q (.slice ao L cap) (bs++news)∧Upd (fun k=>k=q∨v.ownBlock=some k) W (w2.setCell ⟨q,0,none⟩ (.slice ao L cap))∧
   ∀k,(Value.slice ao L cap).ownBlock=some k→v.ownBlock=some k∨W.heap.size≤k)
theorem PutS.next {w0 W:World} {q:Nat} {v:Value} {bs news:List UInt8} (h:PutS w0 W q v bs) {F:Nat} {args:Array Value}
  (hc:Calls Tryz.prog F args W fun e W1=>∃s,e=.returned s∧NewB W W1 s news) (hl:bs.length+news.length≤140737488355328) :
  Calls Tryz.prog F args W fun e W1=>PutNext w0 W q v bs news e W1:=by
 refine hc.mono ?_
 rintro e W1 ⟨s,rfl,hn⟩
 have h1:=h.keep hn.upd
 obtain ⟨sa,sc,hs,-,-⟩:=hn.shape
 obtain ⟨v',w2,hr,hd,hu,hat⟩:=run_append_data h1.data.data hn.data.bat.bytes hl 22
 have hq1:=lt_of_heap h1.box
 have hb2:=hu.get h1.box (fun e=>(h1.ne q e) rfl)
 obtain ⟨ao,cap,hv',-,-⟩:=hd.bat
 subst hv'
 subst hs
 have hne2:∀k,(Value.slice ao (bs++news).length cap).ownBlock=some k→k≠q:=by
  intro k hk
  rcases hat k hk with h2|h2
  ·exact h1.ne k h2
  ·omega
 have hset:Upd (fun k=>k=q∨v.ownBlock=some k) W1 (w2.setCell ⟨q,0,none⟩ (.slice ao (bs++news).length cap)):=(hu.mono (fun k _ e=>.inr e)).setCell (fun _=>.inl rfl) _
 have hq0:w0.heap.size≤W.heap.size:=h.data.upd.size
 have hsz:W.heap.size≤W1.heap.size:=hn.upd.size
 refine ⟨sa,_,sc,ao,_,cap,w2,rfl,cell_of_row _ _ 0 _ _ _ h1.box,hq1,hr,cell_of_row _ _ 0 _ _ _ hb2,frozen_of_row _ _ _ _ _ hb2,lt_of_heap hb2,⟨heap_setCell_at _ _ _ _ _ _ hb2,⟨?_,?_,?_⟩,hne2,h.low⟩,?_,?_⟩
 ·exact hd.upd (Upd.cell_only w2 q 0 _) hne2
 ·intro k hk
  rcases hat k hk with h2|h2
  ·exact h1.data.new k h2
  ·omega
 ·exact h1.data.upd.trans hset (fun k hk e=>e.elim (fun e=>by have:=h.low;omega) (fun e=>by have:=h1.data.new k e;omega))
 ·exact (hn.upd.mono (T:=fun k=>k=q∨v.ownBlock=some k) (fun _ _ e=>e.elim)).trans hset (fun k hk e=>e)
 ·intro k hk
  rcases hat k hk with h2|h2
  ·exact .inl h2
  ·exact .inr (Nat.le_trans hsz h2)
theorem uintsB_snoc (l:List Int) (n:Int):uintsB (l ++ [n])=uintsB l++uintB (n%18446744073709551616).toNat:=by
 unfold uintsB;simp
theorem uintsB_len (l:List Int):(uintsB l).length≤10*l.length:=by
 induction l with
 | nil=>simp [uintsB]
 | cons n l ih=>
  have h1:uintsB (n :: l)=uintB (n%18446744073709551616).toNat++uintsB l:=by unfold uintsB;simp
  have h2:=uintB_len 9 (n%18446744073709551616).toNat (by omega)
  rw [h1,List.length_append,List.length_cons]
  omega
theorem put_any {w0 w:World} {q a:Nat} {v:Value} {bs:List UInt8} {nums:List Int} (h:PutS w0 w q v bs) (ha:a<w.heap.size) (haq:a≠q) (hav:∀k,v.ownBlock=some k→k≠a) (hn:nums.length≤1000000)
  (hl:bs.length≤1000000000) (hc:∀j (hj:j<nums.length),w.cell? ⟨a,j,none⟩=some (.int .i64 nums[j])) :
  Calls Tryz.prog 68 #[.slice (some ⟨a,0,none⟩) nums.length nums.length,.pointer (some ⟨q,0,none⟩)] w fun e w'=>e=.returned (.tuple #[])∧
   Upd (fun b=>b=q∨v.ownBlock=some b) w w'∧∃va vl vc,PutS w0 w' q (.slice va vl vc) (bs++uintsB nums)∧∀b,(Value.slice va vl vc).ownBlock=some b→v.ownBlock=some b∨w.heap.size≤b:=by
 have H0:=hid h;have HC:=hid hc;have Kd:=hid hav
 obtain ⟨va0,vc0,hv,-,-⟩:=h.data.shape
 obtain ⟨n,hnn⟩:∃n,n=nums.length:=⟨_,rfl⟩
 rw [←hnn]
 have Kb:=hid hnn
 have hn6:n≤1000000:=by omega
 have HL:=hid hl;have HA:=hid ha;have Ke:=hid haq
 clear h hc hav hnn hl ha haq hn
 go_enter Tryz.func68,Tryz.ntmps68
 go_wp2
 go_loopw [7] (fun i wr=>∃k:Nat,k≤n∧i=.int .i64 k∧∃va vl vc,PutS w0 wr q (.slice va vl vc) (bs++uintsB (nums.take k))∧Upd (fun b=>b=q∨v.ownBlock=some b) w wr∧∀b,(Value.slice va vl vc).ownBlock=some b→v.ownBlock=some b∨w.heap.size≤b) (fun i _=>n-(intOf i).toNat)
 case atStart=>exact ⟨0,Nat.zero_le _,rfl,va0,_,vc0,by rw [←hv];simpa [uintsB] using H0.out,Upd.refl _ _,by rw [←hv];exact fun b e=>.inl e⟩
 case round=>
  obtain ⟨k,hk,rfl,va,vl,vc,hp,hu,ho⟩:=hrel
  have HP:=hid hp;have HU:=hid hu;have HO:=hid ho
  clear hp hu ho
  by_cases hlt:k<n
  ·have hlt':k<nums.length:=by have:=Kb.out;omega
   have haw:a<wr.heap.size:=Nat.lt_of_lt_of_le HA.out HU.out.size
   have hcell:wr.cell? ⟨a,k,none⟩=some (.int .i64 nums[k]):=(World.cell?_of_block (a:=⟨a,k,none⟩) (HU.out.block a HA.out (fun e=>e.elim Ke.out (fun e=>Kd.out a e rfl)))).trans (HC.out k hlt')
   have HT:=hid (show uintsB (nums.take (k+1))=uintsB (nums.take k)++uintB (nums[k]%18446744073709551616).toNat from by rw [List.take_succ_eq_append_getElem hlt',uintsB_snoc])
   obtain ⟨x,hx⟩:∃x,x=nums[k]:=⟨_,rfl⟩
   rw [←hx] at hcell HT
   have hxe:(((x%18446744073709551616).toNat:Nat):Int)=x%18446744073709551616:=by omega
   have hul:=uintB_len 9 (x%18446744073709551616).toNat (by omega)
   have htl:=uintsB_len (nums.take k)
   have Ka:=hid (show Calls Tryz.prog 69 #[.int .u64 (x%18446744073709551616)] wr.drew fun e W1=>PutNext w0 wr.drew q (.slice va vl vc) (bs++uintsB (nums.take k)) (uintB (x%18446744073709551616).toNat) e W1 from by
    have h:=HP.out.drew.next (uint_any (w:=wr.drew) (n:=(x%18446744073709551616).toNat) (by omega)) (by
     have:=HL.out
     have h3:(nums.take k).length≤k:=by simp;omega
     rw [List.length_append];omega)
    rw [hxe] at h
    exact h)
   have hq0:=cell_of_row _ _ 0 _ _ _ HP.out.box
   have hqw:=lt_of_heap HP.out.box
   clear hx hxe hul htl hlt' hv
   go_wp2_with fail
   go_region_law (first|(go_simp;go_at_call 69;refine Ka.out.mono ?_;rintro e W1 ⟨sa,sl,sc,ao,L,cap,w2,rfl,t1,t2,hr,t3,t4,t5,hF⟩)|(refine step_append_eq rfl (.tmp 11) (.tmp 14) 22 rfl rfl rfl hr ?_))
   all_goals
    have Kf:=hid hF.out.1
    have Kg:=hid hF.out.2.1
    have Kh:=hid hF.out.2.2
    clear hr
    go_wp2
    go_roundw
    case rel=>
     refine ⟨k+1,by omega,by simp,ao,L,cap,?_,?_,?_⟩
     ·rw [HT.out,←List.append_assoc];exact Kf.out
     ·exact HU.out.trans ((Upd.refl (fun b=>b=q∨(Value.slice va vl vc).ownBlock=some b) wr).drew.trans Kg.out (fun _ _ e=>e)) (fun b hb e=>e.elim .inl (fun e=>(HO.out b e).elim .inr (fun e=>by omega)))
     ·intro b e
      rcases Kh.out b e with e|e
      ·exact HO.out b e
      ·exact .inr (Nat.le_trans HU.out.size e)
    case measure=>simp [intOf];omega
  ·obtain rfl:k=n:=by omega
   have Kc:=hid (show PutS w0 wr q (.slice va vl vc) (bs++uintsB nums) from by have h:=HP.out;rw [Kb.out,List.take_length] at h;exact h)
   go_wp2
   go_end0
   exact ⟨rfl,HU.out,va,vl,vc,Kc.out,HO.out⟩
theorem PutS.start (W:World):PutS W (W.alloc (.cells #[.slice none 0 0] 22)) W.heap.size (.slice none 0 0) []:=
 ⟨heap_alloc_new _ _,(NewB.nil W).keep ((Upd.refl (fun _=>False) W).alloc _),(fun k e=>by cases e),Nat.le_refl _⟩
theorem PutS.lt {w0 W:World} {q:Nat} {v:Value} {bs:List UInt8} (h:PutS w0 W q v bs):∀k,v.ownBlock=some k→k<W.heap.size:=by
 intro k hk
 rcases h.data.data with ⟨rfl,-⟩|⟨g,cap,cur,rfl,hg,-⟩
 ·cases hk
 ·simp only [Value.ownBlock,Option.some.injEq] at hk;subst hk;exact lt_of_heap hg
theorem isKeyB_len {b:List UInt8} (h:isKeyB b=true):b.length≤1100:=by
 unfold isKeyB at h
 split at h
 ·cases h
 ·rename_i e p _
  simp only [decide_eq_true_eq] at h
  obtain ⟨hb,hk⟩:=h
  rw [←hk]
  unfold EntA.bad at hb
  split at hb
  ·omega
  ·split at hb
   ·omega
   ·split at hb
    ·omega
    ·rename_i h1 h2 h3
     have l1:=ordT_len e.row
     have l2:=ordT_len e.qual
     unfold EntA.key ordB
     simp only [List.length_append,List.length_cons,List.length_nil,eightB_len]
     split<;>simp only [List.length_append,List.length_cons,List.length_nil]<;>omega
end Go.Proofs.YtgaidmohdhaonaaGreatDoor
