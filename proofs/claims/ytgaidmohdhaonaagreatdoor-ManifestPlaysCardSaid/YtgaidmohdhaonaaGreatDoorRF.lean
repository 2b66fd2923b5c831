/-
  Package strataref4, walked: Create, Delete.
  Package strataref4, walked: Sync, Append.
-/
import Derived.Test.YtgaidmohdhaonaaGreatDoorRE
import Derived.Sort.Walk0
set_option linter.unusedVariables false
set_option linter.unusedSimpArgs false
set_option linter.unnecessarySimpa false
set_option linter.unusedSectionVars false
set_option maxRecDepth 100000
set_option maxHeartbeats 1600000
namespace Go.Proofs.YtgaidmohdhaonaaGreatDoor
open Go Go.RowKit
structure Alike (a b:DiskA):Prop where
 cap:a.cap=b.cap
 files:a.files.Perm b.files
 down:a.down=b.down
 armed:a.armed=b.armed
 cnt:a.cnt=b.cnt
theorem Alike.refl (a:DiskA):Alike a a:=⟨rfl,.refl _,rfl,rfl,rfl⟩
def ltN (a b:ByteArray):Prop:=a.data.toList<b.data.toList
def Sorted (l:List FV):Prop:=(l.map (·.name)).Pairwise ltN
theorem toList_data2 (s:ByteArray):s.toList=s.data.toList:=by
 have:=beq_toList s s
 exact ByteArray.toList_eq s
theorem less_iff (a b:ByteArray):Op.bytesLess a.toList b.toList=true↔ltN a b:=by
 rw [bytesLess_eq,decide_eq_true_eq,toList_data2,toList_data2]
 rfl
theorem ltN_trans {a b c:ByteArray} (h:ltN a b) (h':ltN b c):ltN a c:=List.lt_trans h h'
theorem ltN_total {a b:ByteArray} (h:¬ltN a b) (hn:a≠b):ltN b a:=by
 unfold ltN at *
 rcases List.le_iff_lt_or_eq.1 (List.not_lt.1 h) with h|h
 ·exact h
 ·exact absurd (by rw [←toBA_data a,←toBA_data b,h]) hn
theorem sorted_put:∀ {l:List FV} {f:FV},Sorted l→(∀x∈l,x.name≠f.name)→Sorted (putR l f)
 | [],f,_,_=>by simp [Sorted,putR,putPos]
 | a :: t,f,h,hn=>by
  have h':(∀b∈t.map (·.name),ltN a.name b)∧(t.map (·.name)).Pairwise ltN:=by
   have:=h
   unfold Sorted at this
   rw [List.map_cons,List.pairwise_cons] at this
   exact this
  by_cases hl:Op.bytesLess a.name.toList f.name.toList=true
  ·have ih:=sorted_put (l:=t) (f:=f) h'.2 (fun x hx=>hn x (List.mem_cons_of_mem _ hx))
   have e:putR (a :: t) f=a :: putR t f:=by
    unfold putR putPos
    rw [List.takeWhile_cons,if_pos hl]
    simp
   rw [e]
   unfold Sorted at ih⊢
   rw [List.map_cons,List.pairwise_cons]
   refine ⟨fun b hb=>?_,ih⟩
   have hp:=((putR_perm t f).map (·.name)).mem_iff.1 hb
   rw [List.map_cons] at hp
   rcases List.mem_cons.1 hp with rfl|hp
   ·exact (less_iff _ _).1 hl
   ·exact h'.1 b hp
  ·have e:putR (a :: t) f=f :: a :: t:=by
    unfold putR putPos
    rw [List.takeWhile_cons,if_neg hl]
    simp
   rw [e]
   have hfa:ltN f.name a.name:=ltN_total (fun h=>hl ((less_iff _ _).2 h)) (hn a (by simp))
   unfold Sorted
   rw [List.map_cons,List.pairwise_cons]
   refine ⟨fun b hb=>?_,h⟩
   rw [List.map_cons] at hb
   rcases List.mem_cons.1 hb with rfl|hb
   ·exact hfa
   ·exact ltN_trans hfa (h'.1 b hb)
theorem sorted_filter {l:List FV} {p:FV→Bool} (h:Sorted l):Sorted (l.filter p):=List.Pairwise.sublist ((List.filter_sublist).map _) h
theorem sorted_names {l l':List FV} (h:Sorted l) (e:l'.map (·.name)=l.map (·.name)):Sorted l':=by unfold Sorted at *;rw [e];exact h
theorem lastR_facts (r:RS) (hoff:r.off=false) (hn:0≤r.armed):((lastR r).1=true∧r.armed=1∧(lastR r).2 = { r with armed:=0,off:=true })∨
  ((lastR r).1=false∧r.armed≠1∧∃A,(A=if r.armed=0 then 0 else r.armed-1)∧(lastR r).2 = { r with armed:=A }):=by
 unfold lastR
 by_cases h0:r.armed=0
 ·rw [if_pos h0]
  exact .inr ⟨rfl,by omega,0,by rw [if_pos h0],by cases r;simp at h0⊢;exact h0⟩
 ·rw [if_neg h0]
  by_cases h1:r.armed=1
  ·rw [if_pos h1];exact .inl ⟨rfl,h1,rfl⟩
  ·rw [if_neg h1];exact .inr ⟨hoff,h1,_,by rw [if_neg h0],rfl⟩
theorem actA_go {a:DiskA} {co:Option Nat} {F:List FileA} (h:a.armed≠1):actA a co F=(0,{ a with files:=F,cnt:=bump a.cnt co,armed:=if a.armed=0 then 0 else a.armed-1 }):=by
 unfold actA
 by_cases h0:a.armed=0
 ·rw [if_pos h0,if_pos h0];cases a;simp at h0⊢;exact h0
 ·rw [if_neg h0,if_neg h,if_neg h0]
theorem actA_stop {a:DiskA} {co:Option Nat} {F:List FileA} (h:a.armed=1) (hc:co≠some 6):actA a co F=(3,{ a with armed:=0,down:=true }):=by
 unfold actA
 rw [if_neg (by omega),if_pos h,if_neg hc]
def cCreate (a:DiskA) (n:ByteArray):Int×DiskA:=
 if lookC a n false≠0 then (lookC a n false,a)
 else if (findA a.files n).isSome then (41,a)
 else if 256≤a.files.length then (44,a)
 else actA a none (a.files ++ [⟨n,[],0⟩])
def cDelete (a:DiskA) (n:ByteArray):Int×DiskA:=
 if lookC a n true≠0 then (lookC a n true,a) else actA a (some 9) (dropA a.files n)
def RS.bumped (r:RS) (co:Option Nat):RS:={ r with cnt:=bump r.cnt co }
theorem RS.In.bump1 {w:World} {r:RS} (h:r.In w):RStep w (w.setCell ⟨r.p,4,none⟩ (.int .i64 (wrap64 (r.cnt.acts+1)))) r (r.bumped none):=
 h.turned (Upd.cell_only _ _ _ _) rfl rfl rfl rfl rfl (heap_setCell_at _ _ _ _ _ _ h.top) h.armed
theorem RS.In.bump2 {w:World} {r:RS} (h:r.In w) (j:Nat) (hj:j=5∨j=6∨j=7∨j=8) :
  RStep w ((w.setCell ⟨r.p,4,none⟩ (.int .i64 (wrap64 (r.cnt.acts+1)))).setCell ⟨r.p,j,none⟩ (.int .i64 (wrap64 (cntAt r.cnt (j+1)+1)))) r (r.bumped (some (j+1))):=by
 rcases hj with rfl|rfl|rfl|rfl
 all_goals exact h.turned ((Upd.cell_only _ _ _ _).setCell (p:=⟨r.p,_,none⟩) (fun _=>rfl) _) rfl rfl rfl rfl rfl (heap_setCell_at _ _ _ _ _ _ (heap_setCell_at _ _ _ _ _ _ h.top)) h.armed
theorem refCreate_any {w:World} {r:RS} (hr:r.In w) (n:ByteArray) :
  Calls Tryz.prog 118 #[.pointer (some ⟨r.p,0,none⟩),.string n] w fun e w'=>e=.returned (.int .i64 (cCreate r.abs n).1)∧∃r2,RStep w w' r r2∧Alike r2.abs (cCreate r.abs n).2∧(Sorted r.F→Sorted r2.F):=by
 have hk:=refAsked_any hr n
 rw [asked_eq] at hk
 have HA:=hid (refAt_any hr n)
 have HL:=hid (refLast_any hr)
 have hp:=hr.plt
 obtain ⟨ao,cap,hfv,-,-⟩:=hr.at
 have c1:=hr.c_f
 rw [hfv] at c1
 have hct:=hr.count
 have HR:=hid hr
 unfold cCreate
 by_cases h0:lookC r.abs n false=0
 ·rw [if_neg (by simpa using h0)]
  rw [h0] at hk
  have HK:=hid hk
  obtain ⟨hoff,hok,-⟩:=lookRes_zero.1 h0
  have hlenA:r.abs.files.length=r.F.length:=by simp [RS.abs]
  rcases atR_cases r.F n with ⟨h1,h2,h3⟩|⟨k,hkl,h1,h3,h2⟩
  ·have hfn:findA r.abs.files n=none:=h2
   rw [hfn,if_neg (by simp),hlenA]
   rw [h1] at HA
   by_cases hfull:256≤r.F.length
   ·rw [if_pos hfull]
    have hfull':(256:Int)≤(r.F.length:Int):=by omega
    clear h0 hk h1 h2 h3 hfn hlenA hr hfv hoff hok
    go_enter Tryz.func118,Tryz.ntmps118
    go_wp2_with (first|(go_at_call 164;refine HK.out.mono ?_;rintro e w' ⟨rfl,hww⟩;obtain rfl:=hww.symm)|(go_at_call 151;refine HA.out.mono ?_;rintro e w' ⟨rfl,hww⟩;obtain rfl:=hww.symm))
    go_ret
    exact ⟨rfl,r,RStep.refl HR.out,Alike.refl _,id⟩
   ·rw [if_neg hfull]
    have hfull':¬(256:Int)≤(r.F.length:Int):=by omega
    rcases lastR_facts r hoff hr.armed.1 with ⟨l1,l2,l3⟩|⟨l1,l2,A,hA,l3⟩
    ·have hres:actA r.abs none (r.abs.files ++ [⟨n,[],0⟩])=(3,{ r.abs with armed:=0,down:=true }):=actA_stop l2 (by simp)
     rw [hres]
     rw [l1,l3] at HL
     clear h0 hk h1 h2 h3 hfn hlenA hr hfv hoff hok l1 l2 l3 hres
     go_enter Tryz.func118,Tryz.ntmps118
     go_wp2_with (first|(go_at_call 164;refine HK.out.mono ?_;rintro e w' ⟨rfl,hww⟩;obtain rfl:=hww.symm)|(go_at_call 151;refine HA.out.mono ?_;rintro e w' ⟨rfl,hww⟩;obtain rfl:=hww.symm))
     refine HL.out.mono ?_
     rintro e w1 ⟨rfl,hst⟩
     have Ka:=hid hst
     clear hst
     go_wp2
     go_ret
     exact ⟨rfl,_,Ka.out,⟨rfl,.refl _,rfl,rfl,rfl⟩,id⟩
    ·have hres:actA r.abs none (r.abs.files ++ [⟨n,[],0⟩])=(0,{ r.abs with files:=r.abs.files ++ [⟨n,[],0⟩],cnt:=bump r.abs.cnt none,armed:=A }):=by rw [hA];exact actA_go l2
     rw [hres]
     rw [l1,l3] at HL
     have HN:=hid h3
     clear h0 hk h1 h2 h3 hfn hlenA hr hfv hoff hok l1 l2 l3 hres hA
     go_enter Tryz.func118,Tryz.ntmps118
     go_wp2_with (first|(go_at_call 164;refine HK.out.mono ?_;rintro e w' ⟨rfl,hww⟩;obtain rfl:=hww.symm)|(go_at_call 151;refine HA.out.mono ?_;rintro e w' ⟨rfl,hww⟩;obtain rfl:=hww.symm))
     refine HL.out.mono ?_
     rintro e w1 ⟨rfl,hst⟩
     have HP:=hid (refPut_any hst.ins ⟨n,.slice none 0 0,[],0⟩ (.inl ⟨rfl,rfl⟩) (fun b hb=>by cases hb) (by show r.F.length<256;omega) (by show usedR r.F+0≤r.room;have:=HR.out.room;omega) (Nat.le_refl _))
     have Ka:=hid hst
     clear hst
     go_wp2_with fail
     refine HP.out.mono ?_
     rintro e w2 ⟨rfl,fv',h5,h6,h7⟩
     have hs2:RStep w w2 r { r with armed:=A,fv:=fv',F:=putR r.F ⟨n,.slice none 0 0,[],0⟩ }:=
      Ka.out.trans ⟨h5,rfl,h6,fun b hb=>(h7 b hb).elim .inl (fun h=>h.elim (fun h=>by cases h) .inr)⟩
     have hb:=h5.bump1
     have ca:w2.cell? ⟨r.p,4+0,none⟩=some (.int .i64 r.cnt.acts):=h5.cell 4
     have fa:w2.frozen? ⟨r.p,4+0,none⟩=false:=h5.free 4
     have hp2:r.p<w2.heap.size:=h5.plt
     have Kb:=hid hs2;have HB:=hid hb
     clear h5 h6 h7 hs2 hb
     go_wp2
     go_ret
     refine ⟨rfl,_,Kb.out.trans HB.out,⟨rfl,?_,rfl,rfl,rfl⟩,fun hs=>sorted_put hs HN.out⟩
     show ((putR r.F ⟨n,.slice none 0 0,[],0⟩).map FV.abs).Perm (r.F.map FV.abs ++ [⟨n,[],0⟩])
     refine ((putR_perm _ _).map FV.abs).trans ?_
     rw [List.map_cons]
     exact (List.perm_append_singleton _ _).symm
  ·have hfn:findA r.abs.files n=some r.F[k].abs:=h2
   rw [hfn,if_pos (by simp)]
   rw [h1] at HA
   clear h0 hk h1 h2 h3 hfn hlenA hr hfv hoff hok
   go_enter Tryz.func118,Tryz.ntmps118
   go_wp2_with (first|(go_at_call 164;refine HK.out.mono ?_;rintro e w' ⟨rfl,hww⟩;obtain rfl:=hww.symm)|(go_at_call 151;refine HA.out.mono ?_;rintro e w' ⟨rfl,hww⟩;obtain rfl:=hww.symm))
   go_ret
   exact ⟨rfl,r,RStep.refl HR.out,Alike.refl _,id⟩
 ·rw [if_pos (by simpa using h0)]
  obtain ⟨e0,he0⟩:∃e0,e0=lookC r.abs n false:=⟨_,rfl⟩
  rw [←he0] at h0 hk⊢
  have hb:(e0 != 0)=true:=by simpa using h0
  have HK:=hid hk
  clear h0 he0 hk hr hfv c1
  go_enter Tryz.func118,Tryz.ntmps118
  go_wp2_with (go_at_call 164;refine HK.out.mono ?_;rintro e w' ⟨rfl,hww⟩;obtain rfl:=hww.symm)
  go_ret
  exact ⟨rfl,r,RStep.refl HR.out,Alike.refl _,id⟩
theorem dropR_abs (l:List FV) (n:ByteArray):(dropR l n).map FV.abs=dropA (l.map FV.abs) n:=by
 unfold dropR dropA
 rw [List.filter_map]
 rfl
theorem refDelete_any {w:World} {r:RS} (hr:r.In w) (n:ByteArray) :
  Calls Tryz.prog 159 #[.pointer (some ⟨r.p,0,none⟩),.string n] w fun e w'=>e=.returned (.int .i64 (cDelete r.abs n).1)∧∃r2,RStep w w' r r2∧Alike r2.abs (cDelete r.abs n).2∧(Sorted r.F→Sorted r2.F):=by
 have hk:=refThere_any hr n
 rw [there_eq] at hk
 have HL:=hid (refLast_any hr)
 have hp:=hr.plt
 have HR:=hid hr
 unfold cDelete
 by_cases h0:lookC r.abs n true=0
 ·rw [if_neg (by simpa using h0)]
  rw [h0] at hk
  have HK:=hid hk
  obtain ⟨hoff,hok,-⟩:=lookRes_zero.1 h0
  rcases lastR_facts r hoff hr.armed.1 with ⟨l1,l2,l3⟩|⟨l1,l2,A,hA,l3⟩
  ·rw [actA_stop (a:=r.abs) l2 (by simp)]
   rw [l1,l3] at HL
   clear h0 hk hr hoff hok l1 l2 l3
   go_enter Tryz.func159,Tryz.ntmps159
   go_wp2_with (go_at_call 178;refine HK.out.mono ?_;rintro e w' ⟨rfl,hww⟩;obtain rfl:=hww.symm)
   refine HL.out.mono ?_
   rintro e w1 ⟨rfl,hst⟩
   have Ka:=hid hst
   clear hst
   go_wp2
   go_ret
   exact ⟨rfl,_,Ka.out,⟨rfl,.refl _,rfl,rfl,rfl⟩,id⟩
  ·rw [actA_go (a:=r.abs) l2,show r.abs.armed=r.armed from rfl,←hA]
   rw [l1,l3] at HL
   clear h0 hk hr hoff hok l1 l2 l3 hA
   go_enter Tryz.func159,Tryz.ntmps159
   go_wp2_with (go_at_call 178;refine HK.out.mono ?_;rintro e w' ⟨rfl,hww⟩;obtain rfl:=hww.symm)
   refine HL.out.mono ?_
   rintro e w1 ⟨rfl,hst⟩
   have HP:=hid (refDrop_any hst.ins n)
   have Ka:=hid hst
   clear hst
   go_wp2_with fail
   refine HP.out.mono ?_
   rintro e w2 ⟨rfl,fv',h5,-,-⟩
   have hs2:=Ka.out.trans h5
   have hb:=h5.ins.bump2 8 (by simp)
   have ca:w2.cell? ⟨r.p,4+0,none⟩=some (.int .i64 r.cnt.acts):=h5.ins.cell 4
   have fa:w2.frozen? ⟨r.p,4+0,none⟩=false:=h5.ins.free 4
   have cb:w2.cell? ⟨r.p,4+4,none⟩=some (.int .i64 r.cnt.deletes):=h5.ins.cell 8
   have fb:w2.frozen? ⟨r.p,4+4,none⟩=false:=h5.ins.free 8
   have hp2:r.p<w2.heap.size:=h5.ins.plt
   have Kb:=hid hs2;have HB:=hid hb
   clear h5 hs2 hb
   go_wp2
   go_ret
   refine ⟨rfl,_,Kb.out.trans HB.out,⟨rfl,?_,rfl,rfl,rfl⟩,fun hs=>sorted_filter hs⟩
   show ((dropR r.F n).map FV.abs).Perm (dropA (r.F.map FV.abs) n)
   rw [dropR_abs]
 ·rw [if_pos (by simpa using h0)]
  obtain ⟨e0,he0⟩:∃e0,e0=lookC r.abs n true:=⟨_,rfl⟩
  rw [←he0] at h0 hk⊢
  have hb:(e0 != 0)=true:=by simpa using h0
  have HK:=hid hk
  clear h0 he0 hk hr
  go_enter Tryz.func159,Tryz.ntmps159
  go_wp2_with (go_at_call 178;refine HK.out.mono ?_;rintro e w' ⟨rfl,hww⟩;obtain rfl:=hww.symm)
  go_ret
  exact ⟨rfl,r,RStep.refl HR.out,Alike.refl _,id⟩
theorem RS.In.drewN {w:World} {r:RS} (h:r.In w) (q:Nat):r.In (w.drewN q):=h.upd ((Upd.refl (fun _=>False) w).drewN q) (fun _ _ h=>h)
theorem RStep.drew {w w':World} {r r2:RS} (h:RStep w w' r r2):RStep w w'.drew r r2:=h.trans (RStep.of_upd h.ins ((Upd.refl _ _).drew))
theorem RS.In.setSync {w:World} {r:RS} (h:r.In w) {g cap k y:Nat} (hfv:r.fv=.slice (some ⟨g,0,none⟩) r.F.length cap) (hk:k<r.F.length) (hy:y≤r.F[k].data.length) :
  RStep w (w.setCell ⟨g,k*3+2,none⟩ (.int .i64 y)) r { r with F:=r.F.set k { r.F[k] with synced:=y } }:=by
 have hgp:g≠r.p:=fun e=>h.apart (.inl (by rw [hfv,e];rfl))
 have hgF:∀b∈fvBlocks r.F,b≠g:=fun b hb e=>(List.nodup_append.1 h.files.nodup).2.2 g (by rw [hfv];simp [Value.ownBlock]) b hb e.symm
 have hmem:r.F[k]∈r.F:=List.getElem_mem hk
 obtain ⟨ao,cap',hfv',-,hat⟩:=h.at
 obtain ⟨g',e,-,-,-,d1,-⟩:=hat k hk
 have eg:g'=g:=by rw [hfv',e] at hfv;injection hfv with e1 _ _;injection e1 with e1;injection e1
 subst eg
 have hu:=Upd.cell_only w g' (k*3+2) (.int .i64 y)
 refine h.set1 (f':={ r.F[k] with synced:=y }) hfv hk rfl (hu.mono (fun _ _ e=>.inr (.inl e))) rfl rfl rfl rfl rfl ?_ h.armed ?_ ?_ (fun b hb=>.inl hb) ?_ hy
 ·exact (hu.get h.top (fun e=>hgp e.symm))
 ·intro cur hc
  refine ⟨_,heap_setCell_at _ _ _ _ _ _ hc,by simp,fun i _ h2=>?_,fun hlt=>⟨?_,?_⟩⟩
  ·rw [Array.getElem?_setIfInBounds_ne (Ne.symm h2)]
  ·rw [Array.getElem?_setIfInBounds_ne (by omega)]
   rw [cell_of_row w g' (k*3+1) cur _ _ hc] at d1
   exact d1
  ·rw [Array.getElem?_setIfInBounds_self_of_lt hlt]
 ·exact (h.files.data _ hmem).upd hu (fun b hb e=>hgF b (mem_fvBlocks.2 ⟨_,hmem,hb⟩) e)
 ·have h1:usedR (r.F.set k { r.F[k] with synced:=y })+r.F[k].data.length=usedR r.F+r.F[k].data.length:=usedR_set hk { r.F[k] with synced:=y }
  have h2:=h.room
  exact Nat.le_trans (Nat.le_of_eq (by exact Nat.add_right_cancel h1)) h2
theorem RS.In.setData {w w1:World} {r:RS} (h:r.In w) {g cap k:Nat} (hfv:r.fv=.slice (some ⟨g,0,none⟩) r.F.length cap) (hk:k<r.F.length) (hu:Upd (fun b=>r.F[k].dv.ownBlock=some b) w w1) {dv':Value} {data':List UInt8}
  (hd:DataIs w1 dv' data') (hdo:∀b,dv'.ownBlock=some b→r.F[k].dv.ownBlock=some b∨w.heap.size≤b) (hsz:usedR r.F+data'.length≤r.room+r.F[k].data.length) (hsy:r.F[k].synced≤data'.length) :
  RStep w (w1.setCell ⟨g,k*3+1,none⟩ dv') r { r with F:=r.F.set k ⟨r.F[k].name,dv',data',r.F[k].synced⟩ }:=by
 have hgp:g≠r.p:=fun e=>h.apart (.inl (by rw [hfv,e];rfl))
 have hgF:∀b∈fvBlocks r.F,b≠g:=fun b hb e=>(List.nodup_append.1 h.files.nodup).2.2 g (by rw [hfv];simp [Value.ownBlock]) b hb e.symm
 have hmem:r.F[k]∈r.F:=List.getElem_mem hk
 obtain ⟨ao,cap',hfv',-,hat⟩:=h.at
 obtain ⟨g',e,hglt,-,-,-,d2⟩:=hat k hk
 have eg:g'=g:=by rw [hfv',e] at hfv;injection hfv with e1 _ _;injection e1 with e1;injection e1
 subst eg
 have hng:¬r.F[k].dv.ownBlock=some g':=fun e=>hgF g' (mem_fvBlocks.2 ⟨_,hmem,e⟩) rfl
 have hnp:¬r.F[k].dv.ownBlock=some r.p:=fun e=>h.apart (.inr (mem_fvBlocks.2 ⟨_,hmem,e⟩))
 have hdg:∀b,dv'.ownBlock=some b→b≠g':=fun b hb e=>(hdo b hb).elim (fun h1=>hng (e ▸ h1)) (fun h1=>by omega)
 have hu2:Upd (fun b=>b=g'∨r.F[k].dv.ownBlock=some b) w (w1.setCell ⟨g',k*3+1,none⟩ dv'):=(hu.mono (T:=fun b=>b=g'∨r.F[k].dv.ownBlock=some b) (fun _ _ e=>.inr e)).setCell (p:=⟨g',k*3+1,none⟩) (fun _=>.inl rfl) dv'
 refine h.set1 (f':=⟨r.F[k].name,dv',data',r.F[k].synced⟩) hfv hk rfl (hu2.mono (fun _ _ e=>e.elim (fun e=>.inr (.inl e)) (fun e=>.inr (.inr e)))) rfl rfl rfl rfl rfl ?_ h.armed ?_ ?_ hdo ?_ hsy
 ·exact (hu2.get h.top (fun e=>e.elim (fun e=>hgp e.symm) hnp))
 ·intro cur hc
  refine ⟨_,heap_setCell_at _ _ _ _ _ _ (hu.get hc hng),by simp,fun i h1 _=>?_,fun hlt=>⟨?_,?_⟩⟩
  ·rw [Array.getElem?_setIfInBounds_ne (Ne.symm h1)]
  ·rw [Array.getElem?_setIfInBounds_self_of_lt (by omega)]
  ·rw [Array.getElem?_setIfInBounds_ne (by omega)]
   rw [cell_of_row w g' (k*3+2) cur _ _ hc] at d2
   exact d2
 ·exact hd.upd (Upd.cell_only w1 g' (k*3+1) dv') hdg
 ·have:=usedR_set hk ⟨r.F[k].name,dv',data',r.F[k].synced⟩
  simp only at this
  omega
theorem map_set_abs (l:List FV) (k:Nat) (f:FV):(l.set k f).map FV.abs=(l.map FV.abs).set k f.abs:=by rw [List.map_set]
theorem set_name (l:List FV) {k:Nat} (hk:k<l.length) {f:FV} (hn:f.name=l[k].name):(l.set k f).map (·.name)=l.map (·.name):=by
 rw [List.map_set,hn]
 apply List.ext_getElem?
 intro i
 rw [List.getElem?_set]
 by_cases e:k=i
 ·subst e
  rw [if_pos rfl,if_pos (by simpa using hk)]
  simp [List.getElem?_eq_getElem hk]
 ·rw [if_neg e]
theorem updA_set {l:List FileA} (hnd:(l.map (·.name)).Nodup) {k:Nat} (hk:k<l.length) (g:FileA→FileA):updA l l[k].name g=l.set k (g l[k]):=by
 apply List.ext_getElem?
 intro i
 unfold updA
 rw [List.getElem?_map,List.getElem?_set]
 by_cases e:k=i
 ·subst e
  rw [if_pos rfl,if_pos hk,List.getElem?_eq_getElem hk]
  simp
 ·rw [if_neg e]
  by_cases hi:i<l.length
  ·rw [List.getElem?_eq_getElem hi]
   have hne:l[i].name≠l[k].name:=by
    intro h
    have h1:=List.pairwise_iff_getElem.1 hnd
    rcases Nat.lt_or_gt_of_ne e with hlt|hlt
    ·exact h1 k i (by simpa using hk) (by simpa using hi) hlt (by simp [h])
    ·exact h1 i k (by simpa using hi) (by simpa using hk) hlt (by simp [h])
   simp [hne]
  ·rw [List.getElem?_eq_none (by omega)];rfl
theorem sorted_nodup {l:List FV} (h:Sorted l):((l.map FV.abs).map (·.name)).Nodup:=by
 have e:(l.map FV.abs).map (·.name)=l.map (·.name):=by rw [List.map_map];rfl
 rw [e]
 exact List.Pairwise.imp (fun hab e=>by subst e;exact List.lt_irrefl _ hab) h
def cSync (a:DiskA) (n:ByteArray):Int×DiskA:=
 if lookC a n true≠0 then (lookC a n true,a) else actA a (some 7) (updA a.files n (fun f=>{ f with synced:=f.data.length }))
def cAppend (a:DiskA) (n:ByteArray) (bs:List UInt8):Int×DiskA:=
 if lookC a n false≠0 then (lookC a n false,a)
 else if 67108864<bs.length then (2,a)
 else if (findA a.files n).isNone then (42,a)
 else if a.cap-(a.files.map (·.data.length)).sum<bs.length then (4,a)
 else actA a (some 6) (updA a.files n (fun f=>{ f with data:=f.data++bs }))
theorem usedR_abs (l:List FV):((l.map FV.abs).map (·.data.length)).sum=usedR l:=by unfold usedR;rw [List.map_map];rfl
theorem refSync_any {w:World} {r:RS} (hr:r.In w) (hso:Sorted r.F) (n:ByteArray) :
  Calls Tryz.prog 181 #[.pointer (some ⟨r.p,0,none⟩),.string n] w fun e w'=>e=.returned (.int .i64 (cSync r.abs n).1)∧∃r2,RStep w w' r r2∧Alike r2.abs (cSync r.abs n).2∧Sorted r2.F:=by
 have hk:=refThere_any hr n
 rw [there_eq] at hk
 have HL:=hid (refLast_any hr)
 have hp:=hr.plt
 have HR:=hid hr
 unfold cSync
 by_cases h0:lookC r.abs n true=0
 ·rw [if_neg (by simpa using h0)]
  rw [h0] at hk
  have HK:=hid hk
  obtain ⟨hoff,hok,-⟩:=lookRes_zero.1 h0
  rcases lastR_facts r hoff hr.armed.1 with ⟨l1,l2,l3⟩|⟨l1,l2,A,hA,l3⟩
  ·rw [actA_stop (a:=r.abs) l2 (by simp)]
   rw [l1,l3] at HL
   clear h0 hk hr hoff hok l1 l2 l3
   go_enter Tryz.func181,Tryz.ntmps181
   go_wp2_with (go_at_call 178;refine HK.out.mono ?_;rintro e w' ⟨rfl,hww⟩;obtain rfl:=hww.symm)
   refine HL.out.mono ?_
   rintro e w1 ⟨rfl,hst⟩
   have Kc:=hid hst
   clear hst
   go_wp2
   go_ret
   exact ⟨rfl,_,Kc.out,⟨rfl,.refl _,rfl,rfl,rfl⟩,hso⟩
  ·rw [actA_go (a:=r.abs) l2,show r.abs.armed=r.armed from rfl,←hA]
   rw [l1,l3] at HL
   obtain ⟨fa,hfa⟩:=lookC_zero h0
   rcases atR_cases r.F n with ⟨_,h2,_⟩|⟨k,hkl,h1,h3,h2⟩
   ·exact absurd (h2.symm.trans hfa) (by simp)
   have hupd:updA r.abs.files n (fun f=>{ f with synced:=f.data.length })=(r.F.set k { r.F[k] with synced:=r.F[k].data.length }).map FV.abs:=by
    rw [map_set_abs]
    have hkl':k<(r.F.map FV.abs).length:=by simpa using hkl
    have:=updA_set (sorted_nodup hso) hkl' (fun f=>{ f with synced:=f.data.length })
    rw [List.getElem_map] at this
    rw [←h3]
    exact this
   have Kb:=hid hupd
   have hsn:Sorted (r.F.set k { r.F[k] with synced:=r.F[k].data.length }):=sorted_names hso (set_name r.F hkl rfl)
   have Kd:=hid hsn
   have hsm:=hr.small hkl
   have Ke:=hid h1
   clear h0 hk hr hoff hok l1 l2 l3 hA hfa h1 h2 h3 hupd hsn
   go_enter Tryz.func181,Tryz.ntmps181
   go_wp2_with (go_at_call 178;refine HK.out.mono ?_;rintro e w' ⟨rfl,hww⟩;obtain rfl:=hww.symm)
   refine HL.out.mono ?_
   rintro e w1 ⟨rfl,hst⟩
   have hk2:=refAt_any hst.ins n
   rw [show atR ({ r with armed:=A } : RS).F n=atR r.F n from rfl,Ke.out] at hk2
   have Kf:=hid hk2
   have Kc:=hid hst
   obtain ⟨ao,cap,hfv,hcap,hat⟩:=hst.ins.at
   have c1:=hst.ins.c_f
   rw [hfv] at c1
   obtain ⟨g,rfl,hg,hgp,d0,d1,d2⟩:=hat k hkl
   have hgp':g≠r.p:=hgp
   obtain ⟨p1,q1,hv1,-⟩:=(hst.ins.files.data r.F[k] (List.getElem_mem hkl)).shape
   have d1':w1.cell? ⟨g,k*3+1,none⟩=some (.slice p1 r.F[k].data.length q1):=by rw [←hv1];exact d1
   have fg:w1.frozen? ⟨g,k*3+2,none⟩=false:=by
    rcases hst.ins.files.row.2 with ⟨e,hz⟩|⟨g',cap',cur,e,-,hg',-⟩
    ·have:({ r with armed:=A } : RS).F.length=r.F.length:=rfl;omega
    ·rw [hfv] at e;injection e with e1 _ _;injection e1 with e1;injection e1 with e1;subst e1
     exact frozen_of_row _ _ _ _ _ hg'
   have hs2:=(hst.trans (hst.ins.setSync (y:=r.F[k].data.length) hfv hkl (Nat.le_refl _))).drew
   have hct:r.F.length≤256:=hst.ins.count
   have Ka:=hid hs2
   obtain ⟨L,hL⟩:∃L,L=r.F[k].data.length:=⟨_,rfl⟩
   rw [←hL] at d1' hsm Ka Kb Kd
   have hlt1:=hst.ins.plt
   have d2':w1.cell? ⟨g,k*3+2,none⟩=some (.int .i64 r.F[k].synced):=d2
   obtain ⟨Y,hY⟩:∃Y,Y=r.F[k].synced:=⟨_,rfl⟩
   rw [←hY] at d2'
   clear hk2 hst hfv hat hgp d0 d1 d2 hv1 hs2 hL hY
   go_wp2_with (go_at_call 151;refine Kf.out.mono ?_;rintro e w' ⟨rfl,hww⟩;obtain rfl:=hww.symm)
   go_region
   obtain ⟨w2,hw2⟩:∃w2,w2=(w1.setCell ⟨g,k*3+2,none⟩ (.int .i64 L)).drew:=⟨_,rfl⟩
   rw [←hw2] at Ka⊢
   have hin:=Ka.out.ins
   have hb:=hin.bump2 6 (by simp)
   have ca:w2.cell? ⟨r.p,4+0,none⟩=some (.int .i64 r.cnt.acts):=hin.cell 4
   have fa:w2.frozen? ⟨r.p,4+0,none⟩=false:=hin.free 4
   have cb:w2.cell? ⟨r.p,4+2,none⟩=some (.int .i64 r.cnt.syncs):=hin.cell 6
   have fb:w2.frozen? ⟨r.p,4+2,none⟩=false:=hin.free 6
   have hp2:r.p<w2.heap.size:=hin.plt
   have HB:=hid hb
   clear hw2 hin hb c1 hg fg d1' d2' hlt1 hsm
   go_wp2
   go_ret
   exact ⟨rfl,_,Ka.out.trans HB.out,⟨rfl,.of_eq Kb.out.symm,rfl,rfl,rfl⟩,Kd.out⟩
 ·rw [if_pos (by simpa using h0)]
  obtain ⟨e0,he0⟩:∃e0,e0=lookC r.abs n true:=⟨_,rfl⟩
  rw [←he0] at h0 hk⊢
  have hb:(e0 != 0)=true:=by simpa using h0
  have HK:=hid hk
  clear h0 he0 hk hr
  go_enter Tryz.func181,Tryz.ntmps181
  go_wp2_with (go_at_call 178;refine HK.out.mono ?_;rintro e w' ⟨rfl,hww⟩;obtain rfl:=hww.symm)
  go_ret
  exact ⟨rfl,r,RStep.refl HR.out,Alike.refl _,hso⟩
end Go.Proofs.YtgaidmohdhaonaaGreatDoor
