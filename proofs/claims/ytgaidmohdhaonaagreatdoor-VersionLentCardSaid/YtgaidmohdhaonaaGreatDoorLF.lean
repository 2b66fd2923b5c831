/-
  Plain law: a disk that holds one manifest; three files of runs that no version names, and one that is made beside: Sweep takes the four away.
  Package stratalaw10's orphans, walked.
-/
import Derived.Test.YtgaidmohdhaonaaGreatDoorYT
import Derived.Test.YtgaidmohdhaonaaGreatDoorSU
import Derived.Test.YtgaidmohdhaonaaGreatDoorSX
import Derived.Test.YtgaidmohdhaonaaGreatDoorLC
import Derived.Test.YtgaidmohdhaonaaGreatDoorTC
import Derived.Test.YtgaidmohdhaonaaGreatDoorTD
import Derived.Test.YtgaidmohdhaonaaGreatDoorRA
import Derived.Test.YtgaidmohdhaonaaGreatDoorRI
import Derived.Test.YtgaidmohdhaonaaGreatDoorYJ
set_option linter.unusedVariables false
set_option linter.unusedSimpArgs false
set_option linter.unnecessarySimpa false
set_option linter.unusedSectionVars false
set_option maxRecDepth 100000
set_option maxHeartbeats 12800000
namespace Go.Proofs.YtgaidmohdhaonaaGreatDoor
open Go Go.RowKit
def inL (L:List ByteArray) (n:ByteArray):Bool:=L.any fun y=>decide (y=n)
theorem inL_true {L:List ByteArray} {n:ByteArray} (h:n∈L):inL L n=true:=List.any_eq_true.2 ⟨n,h,decide_eq_true rfl⟩
theorem inL_cons (L:List ByteArray) (f n:ByteArray):inL (f :: L) n=(decide (f=n) || inL L n):=rfl
section
variable {C:Nat}
theorem sweepR_fl (g:ByteArray→Bool):∀(L gone:List ByteArray) (a:DiskA) (F:List FileA),Fl C a F→L.Nodup→(∀f∈L,g f=true→nameOk f.data.toList=true∧∃x∈F,x.name=f)→
  ∃a',sweepR g L gone a=((gone++L.filter g,0),a')∧Fl C a' (F.filter fun x=>!(inL L x.name&&g x.name))
 | [],gone,a,F,h,_,_=>⟨a,by simp [sweepR],by rw [List.filter_eq_self.2 (fun x hx=>by rfl)];exact h⟩
 | f :: L,gone,a,F,h,hd,hm=>by
  obtain ⟨hfL,hdL⟩:=List.nodup_cons.1 hd
  rw [sweepR_cons]
  by_cases hg:g f=false
  ·obtain ⟨a',h1,h2⟩:=sweepR_fl g L gone a F h hdL (fun x hx=>hm x (List.mem_cons_of_mem _ hx))
   refine ⟨a',by rw [if_pos hg,h1,List.filter_cons_of_neg (by rw [hg];simp)],?_⟩
   have e:(F.filter fun x=>!(inL (f :: L) x.name&&g x.name))=F.filter fun x=>!(inL L x.name&&g x.name):=by
    apply List.filter_congr
    intro x hx
    by_cases e:x.name=f
    ·rw [e,hg];simp
    ·rw [inL_cons,decide_eq_false (fun e2=>e e2.symm),Bool.false_or]
   rw [e]
   exact h2
  ·have hg':g f=true:=by simpa using hg
   obtain ⟨ho,x0,hx0,hn0⟩:=hm f (List.mem_cons_self ..) hg'
   obtain ⟨f0,hf0⟩:∃f0,findP F f=some f0:=by
    cases hfp:findP F f with
    | some y=>exact ⟨y,rfl⟩
    | none=>exact absurd hn0 (dropA_isNone hfp x0 hx0)
   obtain ⟨hd1,hd2⟩:=h.delete ho hf0
   obtain ⟨a',h1,h2⟩:=sweepR_fl g L (gone ++ [f]) (deleteP a f).2 _ hd2 hdL (fun x hx hgx=>by
    obtain ⟨o,y,hy,hyn⟩:=hm x (List.mem_cons_of_mem _ hx) hgx
    exact ⟨o,y,mem_dropA.2 ⟨hy,by rw [hyn];rintro rfl;exact hfL hx⟩,hyn⟩)
   refine ⟨a',by rw [if_neg (by rw [hg'];decide),if_neg (by rw [hd1];decide),h1,List.filter_cons_of_pos hg',List.append_assoc];rfl,?_⟩
   have e:(F.filter fun x=>!(inL (f :: L) x.name&&g x.name))=(dropA F f).filter fun x=>!(inL L x.name&&g x.name):=by
    unfold dropA
    rw [List.filter_filter]
    apply List.filter_congr
    intro x hx
    by_cases e:x.name=f
    ·rw [e,hg',inL_cons];simp
    ·rw [inL_cons,decide_eq_false (fun e2=>e e2.symm),Bool.false_or];simp [e]
   rw [e]
   exact h2
end
abbrev oB:ByteArray:={ data:=#[111] }
abbrev oN:ByteArray:=oB++nameB
abbrev oT:ByteArray:=oB++tempB
abbrev oTB:ByteArray:={ data:=#[111,77,65,78,73,70,69,83,84,46,84,77,80] }
theorem oT_eq:oT=oTB:=by kernel_rfl
theorem oB_ok:PreOk oB:=⟨by kernel_rfl,by kernel_rfl,by decide⟩
def oR (i:Nat):ByteArray:=runName oB (2199023255552+7*(i:Int))
def oF (x:VerA):FileA:=⟨oN,encodeB x,(encodeB x).length⟩
def oE (n:ByteArray):FileA:=⟨n,[],0⟩
def oCheck (i:Nat):Bool:=
 decide ((oR i).data.toList≠oT.data.toList)&&decide ((oR i).data.toList≠oN.data.toList)&&hasPre oB (oR i)&&decide (numOf oB (oR i)=2199023255552+7*(i:Int))&&nameOk (oR i).data.toList
theorem o_all:(List.range 3).all oCheck=true:=by kernel_rfl
theorem o_at {i:Nat} (hi:i<3):oR i≠oT∧oR i≠oN∧hasPre oB (oR i)=true∧numOf oB (oR i)=2199023255552+7*(i:Int)∧nameOk (oR i).data.toList=true:=by
 have h:=List.all_eq_true.1 o_all i (List.mem_range.2 hi)
 simp only [oCheck,Bool.and_eq_true,decide_eq_true_eq] at h
 obtain ⟨⟨⟨⟨h1,h2⟩,h3⟩,h4⟩,h5⟩:=h
 exact ⟨fun e=>h1 (by rw [e]),fun e=>h2 (by rw [e]),h3,h4,h5⟩
theorem o_num {i j:Nat} (hi:i<3) (hj:j<3) (h:oR i=oR j):i=j:=by
 have h1:=(o_at hi).2.2.2.1
 have h2:=(o_at hj).2.2.2.1
 rw [h,h2] at h1
 omega
theorem oN_oT:oN≠oT:=fun e=>oB_ok.ne e.symm
theorem oN_not:isRunP oB oN=false:=by
 have h:numOf oB oN=0:=by kernel_rfl
 unfold isRunP
 rw [h];rfl
theorem oN_pre:hasPre oB oN=true:=by kernel_rfl
theorem oT_pre:hasPre oB oT=true:=by kernel_rfl
theorem runName_inj {pre:ByteArray} {n m:Int} (hn:1≤n) (hm:1≤m) (h:runName pre n=runName pre m):n=m:=by
 unfold runName at h
 rw [if_neg (by omega),if_neg (by omega)] at h
 have h1:(pre++runB++decB n.toNat).data.toList=(pre++runB++decB m.toNat).data.toList:=by rw [h]
 simp only [ByteArray.data_append,Array.toList_append] at h1
 have h2:=List.append_cancel_left h1
 have e1:=(dec_dig n.toNat).2.1
 have e2:=(dec_dig m.toNat).2.1
 have h3:Lib.decDigits n.toNat=Lib.decDigits m.toNat:=by simpa [decB] using h2
 rw [h3,e2] at e1
 omega
theorem okA_num {x:VerA} (h:okA x=true):∀r∈x.runs,1≤r.num∧r.num≤1099511627776:=by
 intro r hr
 unfold okA at h
 rw [Bool.and_eq_true] at h
 obtain ⟨hh,ha⟩:=h
 obtain ⟨k,hk,rfl⟩:=List.getElem_of_mem hr
 have h1:=List.all_eq_true.1 ha k (List.mem_range.2 hk)
 unfold runOkA fitsA ins at h1
 have e:x.runs.getD k zeroMeta=x.runs[k]:=by simp [hk]
 rw [e] at h1
 simp only [Bool.and_eq_true,decide_eq_true_eq] at h1
 unfold headA ins at hh
 simp only [Bool.and_eq_true,decide_eq_true_eq] at hh
 omega
section
variable {C:Nat} {a:DiskA} {x:VerA}
def oL:Nat→List FileA
 | 0=>[]
 | n+1=>oL n ++ [oE (oR n)]
theorem oL_mem:∀ {n:Nat} {f:FileA},f∈oL n→∃i,i<n∧f=oE (oR i)
 | n+1,f,h=>by
  rcases List.mem_append.1 h with h|h
  ·obtain ⟨i,hi,e⟩:=oL_mem h;exact ⟨i,by omega,e⟩
  ·exact ⟨n,by omega,List.mem_singleton.1 h⟩
theorem oL_length:∀n:Nat,(oL n).length=n
 | 0=>rfl
 | n+1=>by simp [oL,oL_length n]
theorem Fl.orphan {i:Nat} (h:Fl C a (oF x :: oL i)) (hi:i<3):(createP a (oR i)).1=0∧Fl C (createP a (oR i)).2 (oF x :: oL (i+1)):=by
 have hc:=h.create (n:=oR i) (o_at hi).2.2.2.2 (findP_none (fun f hf=>by
  rcases List.mem_cons.1 hf with rfl|hf
  ·exact fun e=>(o_at hi).2.1 e.symm
  ·obtain ⟨j,hj,rfl⟩:=oL_mem hf
   exact fun e=>by have:=o_num (by omega) hi (show oR j=oR i from e);omega)) (by rw [List.length_cons,oL_length];omega)
 exact hc
theorem Fl.beside (h:Fl C a (oF x :: oL 3)):(createP a oT).1=0∧Fl C (createP a oT).2 (oF x :: oL 3 ++ [oE oT]):=
 h.create (n:=oT) oB_ok.t (findP_none (fun f hf=>by
  rcases List.mem_cons.1 hf with rfl|hf
  ·exact fun e=>oN_oT e
  ·obtain ⟨j,hj,rfl⟩:=oL_mem hf
   exact fun e=>(o_at hj).1 e)) (by rw [List.length_cons,oL_length];omega)
theorem o_goes (hx:okA x=true):goesP oB x.runs oN=false∧goesP oB x.runs oT=true∧∀i,i<3→goesP oB x.runs (oR i)=true:=by
 refine ⟨?_,?_,fun i hi=>?_⟩
 ·unfold goesP;rw [decide_eq_false (by exact oN_oT),oN_not];rfl
 ·unfold goesP;rw [decide_eq_true rfl];rfl
 ·have hr:isRunP oB (oR i)=true:=by
   unfold isRunP
   rw [(o_at hi).2.2.2.1,decide_eq_true (by omega),decide_eq_true (by rfl)]
   rfl
  have hn:namedB oB x.runs (oR i)=false:=by
   unfold namedB
   rw [List.any_eq_false]
   intro r hrm
   rw [decide_eq_true_eq]
   intro e
   have h1:=okA_num hx r hrm
   have:=runName_inj h1.1 (by omega) e
   omega
  unfold goesP
  rw [hr,hn]
  simp
theorem Fl.orphans (h:Fl C a (oF x :: oL 3 ++ [oE oT])) (hx:okA x=true):∃gone a',sweepP a oB x=((gone,0),a')∧gone.length=4∧Fl C a' [oF x]:=by
 obtain ⟨g1,g2,g3⟩:=o_goes hx
 have hns:a.files.map (·.name)=[oN,oR 0,oR 1,oR 2,oT]:=by rw [h.files];rfl
 have hnd:[oN,oR 0,oR 1,oR 2,oT].Nodup:=by
  have q0:=o_at (i:=0) (by omega)
  have q1:=o_at (i:=1) (by omega)
  have q2:=o_at (i:=2) (by omega)
  have n01:oR 0≠oR 1:=fun e=>by have:=o_num (by omega) (by omega) e;omega
  have n02:oR 0≠oR 2:=fun e=>by have:=o_num (by omega) (by omega) e;omega
  have n12:oR 1≠oR 2:=fun e=>by have:=o_num (by omega) (by omega) e;omega
  simp only [List.nodup_cons,List.mem_cons,List.not_mem_nil,or_false,not_or,not_false_eq_true,List.nodup_nil,and_true]
  exact ⟨⟨fun e=>q0.2.1 e.symm,fun e=>q1.2.1 e.symm,fun e=>q2.2.1 e.symm,oN_oT⟩,⟨n01,n02,q0.1⟩,⟨n12,q1.1⟩,q2.1⟩
 obtain ⟨L,hL⟩:∃L,L=listP a oB:=⟨_,rfl⟩
 have hpre:∀n∈sortNames [oN,oR 0,oR 1,oR 2,oT],hasPre oB n=true:=fun n hn=>by
  have hn:=(sortNames_perm _).mem_iff.1 hn
  simp only [List.mem_cons,List.not_mem_nil,or_false] at hn
  rcases hn with rfl|rfl|rfl|rfl|rfl
  ·exact oN_pre
  ·exact (o_at (by omega)).2.2.1
  ·exact (o_at (by omega)).2.2.1
  ·exact (o_at (by omega)).2.2.1
  ·exact oT_pre
 have hLp:L.Perm [oN,oR 0,oR 1,oR 2,oT]:=by
  rw [hL]
  unfold listP
  rw [hns,List.filter_eq_self.2 hpre]
  exact sortNames_perm _
 have hLnd:L.Nodup:=hLp.nodup_iff.2 hnd
 have hmem:∀f,f∈L↔f=oN∨f=oR 0∨f=oR 1∨f=oR 2∨f=oT:=fun f=>by rw [hLp.mem_iff];simp
 obtain ⟨a',h1,h2⟩:=sweepR_fl (C:=C) (goesP oB x.runs) L [] a _ h hLnd (fun f hf hg=>by
  rcases (hmem f).1 hf with rfl|rfl|rfl|rfl|rfl
  ·rw [g1] at hg;cases hg
  ·exact ⟨(o_at (by omega)).2.2.2.2,oE (oR 0),by simp [oL],rfl⟩
  ·exact ⟨(o_at (by omega)).2.2.2.2,oE (oR 1),by simp [oL],rfl⟩
  ·exact ⟨(o_at (by omega)).2.2.2.2,oE (oR 2),by simp [oL],rfl⟩
  ·exact ⟨oB_ok.t,oE oT,by simp,rfl⟩)
 have hask:askedP a oB=0:=askedP_up h.down oB_ok.t oB_ok.size
 refine ⟨L.filter (goesP oB x.runs),a',?_,?_,?_⟩
 ·unfold sweepP
  rw [hask,if_neg (by decide),if_neg (by unfold checkA;rw [if_pos hx];simp),←hL,h1,List.nil_append]
 ·rw [(hLp.filter _).length_eq]
  rw [List.filter_cons_of_neg (by rw [g1];simp),List.filter_cons_of_pos (g3 0 (by omega)),List.filter_cons_of_pos (g3 1 (by omega)),List.filter_cons_of_pos (g3 2 (by omega)),List.filter_cons_of_pos g2]
  rfl
 ·have e:((oF x :: oL 3 ++ [oE oT]).filter fun f=>!(inL L f.name&&goesP oB x.runs f.name))=[oF x]:=by
   have t0:∀n,n∈L→goesP oB x.runs n=true→(!(inL L n&&goesP oB x.runs n))=false:=fun n h1 h2=>by rw [inL_true h1,h2];rfl
   show (oF x :: [oE (oR 0),oE (oR 1),oE (oR 2),oE oT]).filter _=_
   rw [List.filter_cons_of_pos (by show (!(inL L oN&&goesP oB x.runs oN))=true;rw [g1];simp)]
   rw [List.filter_eq_nil_iff.2]
   intro f hf
   simp only [List.mem_cons,List.not_mem_nil,or_false] at hf
   rcases hf with rfl|rfl|rfl|rfl
   ·show ¬(!(inL L (oR 0)&&goesP oB x.runs (oR 0)))=true
    rw [t0 _ ((hmem _).2 (by simp)) (g3 0 (by omega))];decide
   ·show ¬(!(inL L (oR 1)&&goesP oB x.runs (oR 1)))=true
    rw [t0 _ ((hmem _).2 (by simp)) (g3 1 (by omega))];decide
   ·show ¬(!(inL L (oR 2)&&goesP oB x.runs (oR 2)))=true
    rw [t0 _ ((hmem _).2 (by simp)) (g3 2 (by omega))];decide
   ·show ¬(!(inL L oT&&goesP oB x.runs oT))=true
    rw [t0 _ ((hmem _).2 (by simp)) g2];decide
  rw [e] at h2
  exact h2
theorem o_good (hx:okA x=true) (hc:∀r∈x.runs,r.count≤9223372036854775807):GoodM (some x):=by
 intro y hy
 obtain rfl:x=y:=by simpa using hy
 exact ⟨hx,hc⟩
theorem o_swap (hx:okA x=true) (hc:∀r∈x.runs,r.count≤9223372036854775807) (hg:x.gen=1):(swapP (newA 1048576) oB x).1=0∧Fl 1048576 (swapP (newA 1048576) oB x).2 [oF x]:=by
 have hl:=(encA_len hx).1
 have h:=(Fl.new 1048576).swap (pre:=oB) (m:=none) (x:=x) oB_ok rfl (fun y hy=>by cases hy) hx (by rw [hg];rfl) (fun f hf=>by cases hf) (by decide)
 have h2:=h.1 (by show _≤1048576-0;omega)
 exact h2
theorem o_load (h:Fl C a [oF x]) (hx:okA x=true) (hc:∀r∈x.runs,r.count≤9223372036854775807):(loadP a oB).1=(some x,0)∧Fl C (loadP a oB).2 [oF x]:=
 h.load oB_ok (m:=some x) (by
  have h1:findP [oF x] oN=some (oF x):=findP_last (l:=[]) (fun f hf=>by cases hf) _ _
  show (findP [oF x] oN).map (·.data)=_
  rw [h1];rfl) (o_good hx hc)
end
structure OrS (w W:World) (s0 s:DS) (k:KP) (bx:Nat) (C:Array Value):Prop where
 ins:s.In W
 p:s.p=s0.p
 foot:∀q∈s.blocks,q∈s0.blocks∨w.heap.size≤q
 upd:Upd (·∈s0.blocks) w W
 bk:k.N W
 kl:∀q,k.own q→q<w.heap.size∧q∉s0.blocks
 box:W.heap[bx]? = some (.cells C 25 (0,0))
 bn:w.heap.size≤bx
 bo:bx∉s.blocks
section
variable {w W W':World} {s0 s s2:DS} {k:KP} {bx:Nat} {C:Array Value}
theorem OrS.quiet (h:OrS w W s0 s k bx C) (hu:Upd (fun _=>False) W W'):OrS w W' s0 s k bx C:=
 ⟨h.ins.upd hu (fun _ _ e=>e),h.p,h.foot,h.upd.trans hu (fun _ _ e=>e.elim),h.bk.upd hu (fun _ _ e=>e),h.kl,hu.get h.box (fun e=>e),h.bn,h.bo⟩
theorem OrS.step (h:OrS w W s0 s k bx C) (hst:Step W W' s s2):OrS w W' s0 s2 k bx C:=by
 have hs:=h.upd.size
 have hb:=lt_of_heap h.box
 refine ⟨hst.ins,hst.p.trans h.p,fun q hq=>(hst.foot q hq).elim (h.foot q) (fun e=>.inr (by omega)),h.upd.trans hst.upd (fun q hq e=>(h.foot q e).resolve_right (by omega)),h.bk.upd hst.upd (fun q hq e=>?_),h.kl,hst.upd.get h.box h.bo,h.bn,fun e=>(hst.foot bx e).elim h.bo (fun e=>by omega)⟩
 have h1:=h.kl q hq
 exact (h.foot q e).elim h1.2 (fun e=>by omega)
theorem OrS.other {S:Nat→Prop} (h:OrS w W s0 s k bx C) (hu:Upd S W W') (hS:∀q,S q→w.heap.size≤q∧q∉s.blocks∧q≠bx):OrS w W' s0 s k bx C:=
 ⟨h.ins.upd hu (fun q hq e=>(hS q e).2.1 hq),h.p,h.foot,h.upd.trans hu (fun q hq e=>by have:=(hS q e).1;omega),h.bk.upd hu (fun q hq e=>by have:=(hS q e).1;have:=(h.kl q hq).1;omega),h.kl,hu.get h.box (fun e=>(hS bx e).2.2 rfl),h.bn,h.bo⟩
theorem DS.In.names64 (h:s.In W):∀f∈s.abs.files,f.name.size≤64:=by
 intro f hf
 obtain ⟨x,hx,rfl⟩:=List.mem_map.1 hf
 have h2:=(h.files x hx).name
 simp only [nameOk,Bool.and_eq_true,decide_eq_true_eq] at h2
 have h3:=h2.1.2
 simpa [FRec.abs] using h3
end
structure OrEnd (w w':World) (s:DS) (k:KP) (x:VerA) (s':DS) (k':KP):Prop where
 ins:s'.In w'
 p:s'.p=s.p
 fl:Fl 1048576 s'.abs [oF x]
 foot:∀q∈s'.blocks,q∈s.blocks∨w.heap.size≤q
 bk:k'.N w'
 kp:k'.p=k.p
 ls:∃lv u,∃l:List ByteArray,k'.ls=k.ls ++ [⟨lv,u,l.length,l.map Value.string,l.map Value.string⟩]
 own:∀q,k'.own q→k.own q∨(w.heap.size≤q∧q∉s'.blocks)
 upd:Upd (fun q=>q∈s.blocks∨k.own q) w w'
theorem orphans_any {W0 w:World} {s:DS} {k:KP} {v:Value} {x:VerA} (hW:Upd (fun _=>False) W0 w) (hT:TabP W0) (hs:s.In w) (hk:k.N w) (hsl:∀q∈s.blocks,W0.heap.size≤q) (hkl:∀q,k.own q→W0.heap.size≤q∧q∉s.blocks) (hv:VerAt W0 v x) (hin:VerIn x) (hx:okA x=true) (hfl:Fl 1048576 s.abs [oF x]) (hN:k.ls.length≤100000) :
  Calls Tryz.prog 46 #[.pointer (some ⟨s.p,0,none⟩),v,.pointer (some ⟨k.p,0,none⟩)] w fun e w'=>e=.returned (.bool true)∧∃s' k',OrEnd w w' s k x s' k':=by
 have Js:=hid hin
 have hlim:∀r∈x.runs,r.first.length≤140737488351232∧r.last.length≤140737488351232∧r.num≤9223372036854775807:=fun r hr=>by
  have h:=hin.2.2.2.2.2.2.2 r hr
  exact ⟨h.2.2.2.2.2.2.1,h.2.2.2.2.2.2.2,h.1.2⟩
 have Kq:=hid hlim
 obtain ⟨s1,d1,s2,d2,rfl,hva,hvb⟩:=hv
 have HV:=hid (show VerAt W0 (.agg #[.int .i64 x.gen,.int .i64 x.flushed,.int .i64 x.next,.int .i64 x.low,.int .i64 x.clock,.slice s1 x.state.length d1,.slice s2 x.runs.length d2]) x from ⟨s1,d1,s2,d2,rfl,hva,hvb⟩)
 obtain ⟨m1,hm1⟩:∃m,m=x.state.length:=⟨_,rfl⟩
 obtain ⟨m2,hm2⟩:∃m,m=x.runs.length:=⟨_,rfl⟩
 rw [←hm1,←hm2] at HV⊢
 have Jb:=hid hx
 obtain ⟨C,hC⟩:∃C:Array Value,C=#[.int .i64 x.gen,.int .i64 x.flushed,.int .i64 x.next,.int .i64 x.low,.int .i64 x.clock,.slice s1 m1 d1,.slice s2 m2 d2]:=⟨_,rfl⟩
 have HC:=hid hC
 obtain ⟨W1,hW1⟩:∃W1,W1=w.alloc (.cells #[.int .i64 x.gen,.int .i64 x.flushed,.int .i64 x.next,.int .i64 x.low,.int .i64 x.clock,.slice s1 m1 d1,.slice s2 m2 d2] 25):=⟨_,rfl⟩
 obtain ⟨bx,hbx⟩:∃bx,bx=w.heap.size:=⟨_,rfl⟩
 have hu1:Upd (fun _=>False) w W1:=by rw [hW1];exact (Upd.refl _ w).alloc _
 have h0:OrS w W1 s s k bx C:=⟨hs.upd hu1 (fun _ _ e=>e),rfl,fun q hq=>.inl hq,hu1.mono (fun _ _ e=>e.elim),hk.upd hu1 (fun _ _ e=>e),fun q hq=>⟨hk.lt hq,(hkl q hq).2⟩,by rw [hW1,hbx,hC];exact heap_alloc_new w _,by omega,fun e=>by have:=hs.lt _ e;omega⟩
 have HB:=hid (show ∀W s',OrS w W s s' k bx C→Upd (fun _=>False) W0 W∧TabP W∧2∉s'.blocks from fun W s' h=>by
  have h1:Upd (fun _=>False) W0 W:=hW.trans h.upd (fun q hq e=>by have:=hsl q e;omega)
  refine ⟨h1,hT.keep h1,fun e=>?_⟩
  have h2:=hT.lt
  have h3:=hW.size
  rcases h.foot 2 e with h4|h4
  ·have:=hsl 2 h4;omega
  ·omega)
 have Jt:=hid (rfl:s.p=s.p)
 obtain ⟨sp,hsp⟩:∃sp,sp=s.p:=⟨_,rfl⟩
 obtain ⟨kp,hkp⟩:∃kp,kp=k.p:=⟨_,rfl⟩
 rw [←hsp,←hkp]
 have Kg:=hid hsp;have Jc:=hid hkp
 have Zi:=hid hfl;have H0:=hid h0;have Jd:=hid hN;have Je:=hid hW1;have Jf:=hid hbx
 clear hin hlim hva hvb hm1 hm2 hC hu1 h0 hs hk hsl hkl hx hfl hN hW hT hsp hkp
 have hbn1:bx<W1.heap.size:=lt_of_heap H0.out.box
 clear hW1 hbx
 go_enter Tryz.func46,Tryz.ntmps46
 go_upto_region 1 with fail
 rw [←Je.out,←Jf.out]
 go_wp2
 go_loopw [7] (fun iv wr=>∃i:Nat,i≤3∧iv=.int .i64 i∧∃sw,OrS w wr s sw k bx C∧Fl 1048576 sw.abs (oF x :: oL i)) (fun iv _=>3-(intOf iv).toNat)
 case atStart=>exact ⟨0,by omega,rfl,s,H0.out,Zi.out⟩
 case round=>
  obtain ⟨i,hi,rfl,sw,hor,hfl⟩:=hrel
  have Kh:=hid hor;have Ky:=hid hfl
  clear hor hfl
  by_cases hlt:i<3
  ·have Kd:=hid (runName_any wr oB (2199023255552+7*(i:Int)) (by decide) (by omega) (HB.out _ _ Kh.out).2.1)
   have hi2:((i:Int)<3):=by omega
   obtain ⟨h1,h2⟩:=Ky.out.orphan hlt
   have Zj:=hid h1;have Kj:=hid h2
   clear h1 h2
   go_wp2_with fail
   refine Kd.out.mono ?_
   rintro e w3 ⟨rfl,hu3⟩
   obtain ⟨rn,hrn⟩:∃b,b=oR i:=⟨_,rfl⟩
   rw [show runName oB (2199023255552+7*(i:Int))=rn from hrn.symm]
   rw [←hrn] at Zj Kj
   have Kz:=hid (Kh.out.quiet hu3)
   have Ke:=hid (create_p Kz.out.ins rn)
   rw [Kz.out.p,←Kg.out] at Ke
   rw [Zj.out] at Ke
   clear hrn hu3 Kd
   go_wp2_with fail
   refine Ke.out.mono ?_
   rintro e w4 ⟨rfl,s4,hst4,habs4⟩
   have Kb:=hid (Kz.out.step hst4)
   have Ki:=hid (show Fl 1048576 s4.abs (oF x :: oL (i+1)) from by rw [habs4];exact Kj.out)
   clear hst4 habs4
   go_wp2_with fail
   refine (lawNum_any _ _ (by decide)).mono ?_
   rintro e W ⟨rfl,hww⟩
   obtain rfl:=hww.symm
   go_wp2
   go_roundw
   case rel=>exact ⟨i+1,by omega,by go_num,s4,Kb.out,Ki.out⟩
   case measure=>simp [intOf];omega
  ·obtain ⟨n3,hn3⟩:∃n3,n3=i:=⟨_,rfl⟩
   have hi2:¬((i:Int)<3):=by omega
   have hfl:Fl 1048576 sw.abs (oF x :: oL 3):=by
    have h:=Ky.out
    rw [show i=3 from by omega] at h
    exact h
   obtain ⟨h1,h2⟩:=hfl.beside
   rw [oT_eq] at h1 h2
   have Kj:=hid h2
   have Ke:=hid (create_p Kh.out.ins oTB)
   rw [Kh.out.p,←Kg.out,h1] at Ke
   clear h1 h2 hfl hn3 n3 Ky
   go_wp2_with fail
   refine Ke.out.mono ?_
   rintro e w4 ⟨rfl,s4,hst4,habs4⟩
   have Kb:=hid (Kh.out.step hst4)
   have Ki:=hid (show Fl 1048576 s4.abs (oF x :: oL 3 ++ [oE oT]) from by rw [habs4,oT_eq];exact Kj.out)
   clear hst4 habs4 Kj Kh Ke
   go_wp2_with fail
   refine (lawNum_any _ _ (by decide)).mono ?_
   rintro e W ⟨rfl,hww⟩
   obtain rfl:=hww.symm
   have Kk:=hid (capacity_any Kb.out.ins)
   rw [Kb.out.p,←Kg.out] at Kk
   go_wp2_with fail
   refine Kk.out.mono ?_
   rintro e W ⟨rfl,hww⟩
   obtain rfl:=hww.symm
   have Kf:=hid (files_any Kb.out.ins)
   rw [Kb.out.p,←Kg.out] at Kf
   clear Kk
   go_wp2_with fail
   refine Kf.out.mono ?_
   rintro e w5 ⟨fv,l5,rfl,hf5,ha5,hu5⟩
   have Kl:=hid (Kb.out.quiet hu5)
   have hsm:=files_small Kb.out.ins ha5
   have hlo:=load_told Kb.out.ins ha5
   have Ko:=hid (refLoad_any (cap:=(s4.cap:Int)) hf5.toIn (fun f hf=>by
    obtain ⟨y,hy,rfl⟩:=List.mem_map.1 hf
    have:=hsm.1 y hy
    show y.data.length≤_
    omega))
   rw [hlo] at Ko
   have Zk:=hid (fileList_files_perm Kb.out.ins)
   clear hf5 ha5 hu5 hsm hlo Kf
   obtain ⟨cp,hcp⟩:∃cp,cp=s4.cap:=⟨_,rfl⟩
   rw [←hcp] at Ko⊢
   have Kk:=hid hcp
   clear hcp Kb
   go_wp2_with fail
   refine Ko.out.mono ?_
   rintro e w6 ⟨hu6,r,rfl,hrin,hral,hrso,hrnew⟩
   have Kc:=hid (Kl.out.quiet hu6)
   have hra:RA w6 r s4.abs:=⟨hrin,hrso,⟨hral.symm.cap.trans (by show (cp:Int).toNat=s4.cap;rw [Kk.out];simp),hral.symm.files.trans Zk.out,hral.symm.down.trans Ki.out.down.symm,hral.symm.armed.trans Ki.out.arm.symm⟩⟩
   have Zl:=hid hra;have Kd:=hid hrnew;have Zm:=hid hu6.size;have Kr:=hid Kl.out.ins.lt
   obtain ⟨gone,a',hsw,hg4,hfa⟩:=Ki.out.orphans Jb.out
   have Jg:=hid hsw;have Zn:=hid hg4;have Jh:=hid hfa
   have Za:=hid (sweep_any (x:=x) (HB.out _ _ Kc.out).2.1 Kc.out.ins (HB.out _ _ Kc.out).2.2 oB (by decide) (HV.out.keep (HB.out _ _ Kc.out).1) Kq.out)
   rw [Kc.out.p,←Kg.out,hsw] at Za
   have Ji:=hid Kc.out.ins.names64
   have hbox:=verCells (show w6.heap[bx]? = _ from by rw [Kc.out.box,HC.out])
   obtain ⟨⟨z0,z1,z2,z3,z4,z5,z6⟩,-,hzl⟩:=hbox
   have Ks:=hid (show ∀q,r.own q→q<w6.heap.size from fun q hq=>hrin.lt hq)
   clear hu6 hrin hral hrso hrnew hra hsw hg4 hfa Ko Zk Ki
   go_wp2_with fail
   refine Za.out.mono ?_
   rintro e w7 ⟨gv,rfl,hgs,s7,hst7,habs7,hgo⟩
   try simp only at habs7 hgs
   have Zb:=hid (Kc.out.step hst7)
   have Zo:=hid (Zl.out.upd hst7.upd (fun q hq e=>by have h1:=Kd.out q hq;have h2:=Kr.out q e;omega))
   have Kt:=hid (show ∀q,r.own q→q∉s7.blocks from fun q hq e=>by
    have h1:=Kd.out q hq
    rcases hst7.foot q e with h2|h2
    ·have h3:=Kr.out q h2;omega
    ·have:=Ks.out q hq;omega)
   have Jj:=hid (show ∀b,gv.ownBlock=some b→¬r.own b from fun b hb e=>by have h1:=hgs.2 b hb;have:=Ks.out b e;omega)
   have Zp:=hid hgs;have Jk:=hid hgo;have Ku:=hid habs7;have Jq:=hid hst7.upd.size
   have Zq:=hid (show ¬r.own bx from fun e=>by
    have h1:=Kd.out bx e
    have h2:=Kl.out.box
    have:=lt_of_heap h2
    omega)
   have Zc:=hid (show w.heap.size≤w5.heap.size from Kl.out.upd.size)
   have Zd:=hid (refSweep10_any (v:=.agg #[.int .i64 x.gen,.int .i64 x.flushed,.int .i64 x.next,.int .i64 x.low,.int .i64 x.clock,.slice s1 m1 d1,.slice s2 m2 d2]) (x:=x) Zo.out oB (by decide) (fun W' hu=>HV.out.keep ((HB.out _ _ (Zb.out.other hu (fun q hq=>⟨by have:=Kd.out q hq;have:=Zc.out;omega,Kt.out q hq,fun e=>Zq.out (e ▸ hq)⟩))).1)) Kq.out Ji.out)
   rw [Jg.out] at Zd
   have hbox:=verCells (show w7.heap[bx]? = _ from by rw [Zb.out.box,HC.out])
   clear z0 z1 z2 z3 z4 z5 z6 hzl
   obtain ⟨⟨z0,z1,z2,z3,z4,z5,z6⟩,-,hzl⟩:=hbox
   clear hst7 habs7 hgs hgo Za Kc Kl Zl
   go_wp2_with fail
   refine Zd.out.mono ?_
   rintro e w8 ⟨gw,rfl,hws,r8,hg8,hwo⟩
   try simp only at hws hg8
   have hu8:=hg8.st.upd
   have Jl:=hid (Zb.out.other hu8 (fun q hq=>⟨by have:=Kd.out q hq;have:=Zc.out;omega,Kt.out q hq,fun e=>Zq.out (e ▸ hq)⟩))
   have hgs8:=Zp.out.upd hu8 (fun b hb e=>Jj.out b hb e)
   have Kv:=hid hgs8
   have Ze:=hid (sameNames_yes hgs8.at' hws.at')
   have Zr:=hid hg8.ra
   have Jm:=hid hg8.st.p
   have Jn:=hid (show Fl 1048576 s7.abs [oF x] from by rw [Ku.out];exact Jh.out)
   have Kp:=hid (show AlikeN r8.abs s7.abs from by rw [Ku.out];exact hg8.ra.al)
   have Jr:=hid hu8.size
   obtain ⟨va,vc,hve,hvl,hvm⟩:=hgs8.shape
   obtain ⟨wa,wc,hwe,hwl,hwm⟩:=hws.shape
   rw [Zn.out] at hve hwe hvl hwl
   have Zs:=hid hve
   subst hwe
   rw [hve] at Ze⊢
   have hz0:((0:Int) != 0)=false:=by decide
   have h43:¬((4:Nat):Int)<3:=by decide
   clear z0 z1 z2 z3 z4 z5 z6 hzl hws hg8 hwo hu8 hgs8 hve Zd Zo
   go_wp2_with fail
   refine (lawNum_any _ _ (by decide)).mono ?_
   rintro e W ⟨rfl,hww⟩
   obtain rfl:=hww.symm
   go_wp2_with fail
   refine Ze.out.mono ?_
   rintro e w9 ⟨rfl,hu9⟩
   have Zf:=hid (Jl.out.quiet hu9)
   have Zt:=hid (Kv.out.upd hu9 (fun _ _ e=>e))
   have Zu:=hid (Zr.out.keep hu9)
   have Kf:=hid (files_any Zf.out.ins)
   rw [Zf.out.p,←Kg.out] at Kf
   clear hu9 Ze Kv Zr
   go_wp2_with fail
   refine Kf.out.mono ?_
   rintro e w10 ⟨fv2,l10,rfl,hf10,ha10,hu10⟩
   have Kw:=hid (Zf.out.quiet hu10)
   have Km:=hid (Zt.out.upd hu10 (fun _ _ e=>e))
   have Kx:=hid (Zu.out.keep hu10)
   have Zg:=hid (refFiles_any Kx.out.ins)
   rw [Jm.out] at Zg
   have Zv:=hid hf10;have Zw:=hid ha10
   clear hf10 ha10 hu10 Kf Zu
   go_wp2_with fail
   refine Zg.out.mono ?_
   rintro e w11 ⟨fw,l11,rfl,hf11,ha11,hu11⟩
   have Zx:=hid (Kw.out.quiet hu11)
   have Kn:=hid (Km.out.upd hu11 (fun _ _ e=>e))
   have heq:l10.map FV.abs=l11.map FV.abs:=by
    rw [Zw.out,ha11]
    exact (sorted_fileList (r:={ r8 with cnt:=s7.cnt }) Kw.out.ins ⟨Kp.out.symm.cap,Kp.out.symm.files,Kp.out.symm.down,Kp.out.symm.armed,rfl⟩ Kx.out.so).symm
   have Jo:=hid heq
   have Zy:=hid (sameFiles10_any (Zv.out.keep hu11 (fun _ _ e=>e)) hf11)
   clear heq hf11 ha11 hu11 Zg Km
   go_wp2_with fail
   refine Zy.out.mono ?_
   rintro e w12 ⟨bb,rfl,hb,hu12⟩
   obtain rfl:=hb.2 Jo.out
   have Ka:=hid (Zx.out.quiet hu12)
   have hgs12:=Kn.out.upd hu12 (fun _ _ e=>e)
   have Jp:=hid hgs12
   have Zz:=hid (show ∀b,gv.ownBlock=some b→w.heap.size≤b∧b∉s7.blocks from fun b hb=>⟨by have:=Zp.out.2 b hb;have:=Zc.out;have:=Zm.out;omega,Jk.out b hb⟩)
   have Zh:=hid (keepN_any (l:=gone) Ka.out.bk hgs12.1 (fun q e hq=>by have:=(Zz.out q e).1;have:=(Ka.out.kl q hq).1;omega) (by have:=Zn.out;omega) (by have:=Jd.out;omega))
   rw [←Jc.out,Zs.out] at Zh
   clear hb hu12 hgs12 Zy Kn
   go_wp2_with fail
   refine Zh.out.mono ?_
   rintro e w13 ⟨rfl,k',hkk⟩
   have hks:∀q,(q=k.p∨k.lv.ownBlock=some q∨k.wv.ownBlock=some q)→k.own q:=fun q e=>by
    rcases e with e|e|e
    ·exact e ▸ ⟨_,KP.oP⟩
    ·exact ⟨_,KP.oL e⟩
    ·exact ⟨_,KP.oW e⟩
   have hkd:∀q∈s7.blocks,¬k.own q:=fun q hq e=>by
    have h1:=Ka.out.kl q e
    exact (Ka.out.foot q hq).elim h1.2 (fun e=>by omega)
   have Ja:=hid (show OrEnd w w13 s k x s7 k' from by
    refine ⟨Ka.out.ins.upd hkk.1.upd (fun q hq e=>hkd q hq (hks q e)),Ka.out.p,Jn.out,Ka.out.foot,hkk.1.ins,hkk.1.p,?_,fun q hq=>?_,?_⟩
    ·obtain ⟨u,e⟩:=hkk.2
     exact ⟨_,u,gone,e⟩
    ·rcases hkk.1.foot q hq with h1|h1|h1
     ·exact .inl h1
     ·exact .inr (Zz.out q (by rw [Zs.out];exact h1))
     ·exact .inr ⟨Nat.le_trans Ka.out.upd.size h1,fun e=>by have:=Ka.out.ins.lt q e;omega⟩
    ·exact (Ka.out.upd.mono (fun _ _ e=>.inl e)).trans hkk.1.upd (fun q _ e=>.inr (hks q e)))
   clear hkk hks hkd Zh
   go_wp2
   go_ret
   exact ⟨rfl,s7,k',Ja.out⟩
end Go.Proofs.YtgaidmohdhaonaaGreatDoor
