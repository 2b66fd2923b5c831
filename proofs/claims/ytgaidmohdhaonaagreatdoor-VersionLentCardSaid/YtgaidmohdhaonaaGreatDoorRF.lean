/-
  Package strataref4, walked: Create, Delete.
  Package strataref4, walked: Sync, Append.
-/
import Derived.Test.YtgaidmohdhaonaaGreatDoorRE
import Derived.Sort.Walk0
set_option linter.unusedVariables false
set_option linter.unusedSimpArgs false
set_option linter.unnecessarySimpa false
set_option linter.unusedSectionVars false
set_option maxRecDepth 100000
set_option maxHeartbeats 1600000
namespace Go.Proofs.YtgaidmohdhaonaaGreatDoor
open Go Go.RowKit
structure Alike (a b:DiskA):Prop where
 cap:a.cap=b.cap
 files:a.files.Perm b.files
 down:a.down=b.down
 armed:a.armed=b.armed
 cnt:a.cnt=b.cnt
theorem Alike.refl (a:DiskA):Alike a a:=⟨rfl,.refl _,rfl,rfl,rfl⟩
def ltN (a b:ByteArray):Prop:=a.data.toList<b.data.toList
def Sorted (l:List FV):Prop:=(l.map (·.name)).Pairwise ltN
theorem toList_data2 (s:ByteArray):s.toList=s.data.toList:=by
 have:=beq_toList s s
 exact ByteArray.toList_eq s
theorem less_iff (a b:ByteArray):Op.bytesLess a.toList b.toList=true↔ltN a b:=by
 rw [bytesLess_eq,decide_eq_true_eq,toList_data2,toList_data2]
 rfl
theorem ltN_trans {a b c:ByteArray} (h:ltN a b) (h':ltN b c):ltN a c:=List.lt_trans h h'
theorem ltN_total {a b:ByteArray} (h:¬ltN a b) (hn:a≠b):ltN b a:=by
 unfold ltN at *
 rcases List.le_iff_lt_or_eq.1 (List.not_lt.1 h) with h|h
 ·exact h
 ·exact absurd (by rw [←toBA_data a,←toBA_data b,h]) hn
theorem sorted_put:∀ {l:List FV} {f:FV},Sorted l→(∀x∈l,x.name≠f.name)→Sorted (putR l f)
 | [],f,_,_=>by simp [Sorted,putR,putPos]
 | a :: t,f,h,hn=>by
  have h':(∀b∈t.map (·.name),ltN a.name b)∧(t.map (·.name)).Pairwise ltN:=by
   have:=h
   unfold Sorted at this
   rw [List.map_cons,List.pairwise_cons] at this
   exact this
  by_cases hl:Op.bytesLess a.name.toList f.name.toList=true
  ·have ih:=sorted_put (l:=t) (f:=f) h'.2 (fun x hx=>hn x (List.mem_cons_of_mem _ hx))
   have e:putR (a :: t) f=a :: putR t f:=by
    unfold putR putPos
    rw [List.takeWhile_cons,if_pos hl]
    simp
   rw [e]
   unfold Sorted at ih⊢
   rw [List.map_cons,List.pairwise_cons]
   refine ⟨fun b hb=>?_,ih⟩
   have hp:=((putR_perm t f).map (·.name)).mem_iff.1 hb
   rw [List.map_cons] at hp
   rcases List.mem_cons.1 hp with rfl|hp
   ·exact (less_iff _ _).1 hl
   ·exact h'.1 b hp
  ·have e:putR (a :: t) f=f :: a :: t:=by
    unfold putR putPos
    rw [List.takeWhile_cons,if_neg hl]
    simp
   rw [e]
   have hfa:ltN f.name a.name:=ltN_total (fun h=>hl ((less_iff _ _).2 h)) (hn a (by simp))
   unfold Sorted
   rw [List.map_cons,List.pairwise_cons]
   refine ⟨fun b hb=>?_,h⟩
   rw [List.map_cons] at hb
   rcases List.mem_cons.1 hb with rfl|hb
   ·exact hfa
   ·exact ltN_trans hfa (h'.1 b hb)
theorem sorted_filter {l:List FV} {p:FV→Bool} (h:Sorted l):Sorted (l.filter p):=List.Pairwise.sublist ((List.filter_sublist).map _) h
theorem lastR_facts (r:RS) (hoff:r.off=false) (hn:0≤r.armed):((lastR r).1=true∧r.armed=1∧(lastR r).2 = { r with armed:=0,off:=true })∨
  ((lastR r).1=false∧r.armed≠1∧∃A,(A=if r.armed=0 then 0 else r.armed-1)∧(lastR r).2 = { r with armed:=A }):=by
 unfold lastR
 by_cases h0:r.armed=0
 ·rw [if_pos h0]
  exact .inr ⟨rfl,by omega,0,by rw [if_pos h0],by cases r;simp at h0⊢;exact h0⟩
 ·rw [if_neg h0]
  by_cases h1:r.armed=1
  ·rw [if_pos h1];exact .inl ⟨rfl,h1,rfl⟩
  ·rw [if_neg h1];exact .inr ⟨hoff,h1,_,by rw [if_neg h0],rfl⟩
theorem actA_go {a:DiskA} {co:Option Nat} {F:List FileA} (h:a.armed≠1):actA a co F=(0,{ a with files:=F,cnt:=bump a.cnt co,armed:=if a.armed=0 then 0 else a.armed-1 }):=by
 unfold actA
 by_cases h0:a.armed=0
 ·rw [if_pos h0,if_pos h0];cases a;simp at h0⊢;exact h0
 ·rw [if_neg h0,if_neg h,if_neg h0]
theorem actA_stop {a:DiskA} {co:Option Nat} {F:List FileA} (h:a.armed=1) (hc:co≠some 6):actA a co F=(3,{ a with armed:=0,down:=true }):=by
 unfold actA
 rw [if_neg (by omega),if_pos h,if_neg hc]
def cDelete (a:DiskA) (n:ByteArray):Int×DiskA:=
 if lookC a n true≠0 then (lookC a n true,a) else actA a (some 9) (dropA a.files n)
def RS.bumped (r:RS) (co:Option Nat):RS:={ r with cnt:=bump r.cnt co }
theorem RS.In.bump2 {w:World} {r:RS} (h:r.In w) (j:Nat) (hj:j=5∨j=6∨j=7∨j=8) :
  RStep w ((w.setCell ⟨r.p,4,none⟩ (.int .i64 (wrap64 (r.cnt.acts+1)))).setCell ⟨r.p,j,none⟩ (.int .i64 (wrap64 (cntAt r.cnt (j+1)+1)))) r (r.bumped (some (j+1))):=by
 rcases hj with rfl|rfl|rfl|rfl
 all_goals exact h.turned ((Upd.cell_only _ _ _ _).setCell (p:=⟨r.p,_,none⟩) (fun _=>rfl) _) rfl rfl rfl rfl rfl (heap_setCell_at _ _ _ _ _ _ (heap_setCell_at _ _ _ _ _ _ h.top)) h.armed
theorem dropR_abs (l:List FV) (n:ByteArray):(dropR l n).map FV.abs=dropA (l.map FV.abs) n:=by
 unfold dropR dropA
 rw [List.filter_map]
 rfl
theorem refDelete_any {w:World} {r:RS} (hr:r.In w) (n:ByteArray) :
  Calls Tryz.prog 159 #[.pointer (some ⟨r.p,0,none⟩),.string n] w fun e w'=>e=.returned (.int .i64 (cDelete r.abs n).1)∧∃r2,RStep w w' r r2∧Alike r2.abs (cDelete r.abs n).2∧(Sorted r.F→Sorted r2.F):=by
 have hk:=refThere_any hr n
 rw [there_eq] at hk
 have HL:=hid (refLast_any hr)
 have hp:=hr.plt
 have HR:=hid hr
 unfold cDelete
 by_cases h0:lookC r.abs n true=0
 ·rw [if_neg (by simpa using h0)]
  rw [h0] at hk
  have HK:=hid hk
  obtain ⟨hoff,hok,-⟩:=lookRes_zero.1 h0
  rcases lastR_facts r hoff hr.armed.1 with ⟨l1,l2,l3⟩|⟨l1,l2,A,hA,l3⟩
  ·rw [actA_stop (a:=r.abs) l2 (by simp)]
   rw [l1,l3] at HL
   clear h0 hk hr hoff hok l1 l2 l3
   go_enter Tryz.func159,Tryz.ntmps159
   go_wp2_with (go_at_call 178;refine HK.out.mono ?_;rintro e w' ⟨rfl,hww⟩;obtain rfl:=hww.symm)
   refine HL.out.mono ?_
   rintro e w1 ⟨rfl,hst⟩
   have Ka:=hid hst
   clear hst
   go_wp2
   go_ret
   exact ⟨rfl,_,Ka.out,⟨rfl,.refl _,rfl,rfl,rfl⟩,id⟩
  ·rw [actA_go (a:=r.abs) l2,show r.abs.armed=r.armed from rfl,←hA]
   rw [l1,l3] at HL
   clear h0 hk hr hoff hok l1 l2 l3 hA
   go_enter Tryz.func159,Tryz.ntmps159
   go_wp2_with (go_at_call 178;refine HK.out.mono ?_;rintro e w' ⟨rfl,hww⟩;obtain rfl:=hww.symm)
   refine HL.out.mono ?_
   rintro e w1 ⟨rfl,hst⟩
   have HP:=hid (refDrop_any hst.ins n)
   have Ka:=hid hst
   clear hst
   go_wp2_with fail
   refine HP.out.mono ?_
   rintro e w2 ⟨rfl,fv',h5,-,-⟩
   have hs2:=Ka.out.trans h5
   have hb:=h5.ins.bump2 8 (by simp)
   have ca:w2.cell? ⟨r.p,4+0,none⟩=some (.int .i64 r.cnt.acts):=h5.ins.cell 4
   have fa:w2.frozen? ⟨r.p,4+0,none⟩=false:=h5.ins.free 4
   have cb:w2.cell? ⟨r.p,4+4,none⟩=some (.int .i64 r.cnt.deletes):=h5.ins.cell 8
   have fb:w2.frozen? ⟨r.p,4+4,none⟩=false:=h5.ins.free 8
   have hp2:r.p<w2.heap.size:=h5.ins.plt
   have Kb:=hid hs2;have HB:=hid hb
   clear h5 hs2 hb
   go_wp2
   go_ret
   refine ⟨rfl,_,Kb.out.trans HB.out,⟨rfl,?_,rfl,rfl,rfl⟩,fun hs=>sorted_filter hs⟩
   show ((dropR r.F n).map FV.abs).Perm (dropA (r.F.map FV.abs) n)
   rw [dropR_abs]
 ·rw [if_pos (by simpa using h0)]
  obtain ⟨e0,he0⟩:∃e0,e0=lookC r.abs n true:=⟨_,rfl⟩
  rw [←he0] at h0 hk⊢
  have hb:(e0 != 0)=true:=by simpa using h0
  have HK:=hid hk
  clear h0 he0 hk hr
  go_enter Tryz.func159,Tryz.ntmps159
  go_wp2_with (go_at_call 178;refine HK.out.mono ?_;rintro e w' ⟨rfl,hww⟩;obtain rfl:=hww.symm)
  go_ret
  exact ⟨rfl,r,RStep.refl HR.out,Alike.refl _,id⟩
theorem RS.In.drewN {w:World} {r:RS} (h:r.In w) (q:Nat):r.In (w.drewN q):=h.upd ((Upd.refl (fun _=>False) w).drewN q) (fun _ _ h=>h)
theorem sorted_nodup {l:List FV} (h:Sorted l):((l.map FV.abs).map (·.name)).Nodup:=by
 have e:(l.map FV.abs).map (·.name)=l.map (·.name):=by rw [List.map_map];rfl
 rw [e]
 exact List.Pairwise.imp (fun hab e=>by subst e;exact List.lt_irrefl _ hab) h
theorem usedR_abs (l:List FV):((l.map FV.abs).map (·.data.length)).sum=usedR l:=by unfold usedR;rw [List.map_map];rfl
end Go.Proofs.YtgaidmohdhaonaaGreatDoor
