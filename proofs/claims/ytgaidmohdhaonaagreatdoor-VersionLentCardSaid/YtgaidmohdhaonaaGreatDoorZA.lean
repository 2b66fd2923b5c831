/-
  What is encoded is decoded: plain.
-/
import Derived.Test.YtgaidmohdhaonaaGreatDoorYK
import Derived.Test.YtgaidmohdhaonaaGreatDoorYA
import Derived.Test.YtgaidmohdhaonaaGreatDoorRows
import Derived.WalkKit
import Derived.ProofKit
import Derived.OpenShut
import Derived.ShutString
import Derived.ChangeOld
import Derived.Below
import Derived.Deep.Slices
import Derived.Deep.DeepHandedRow
import Derived.SizedLaws
import Derived.Lib.LaidTab
import Derived.Lib.SmallJoins
import Derived.Test.YtgaidmohdhaonaaGreatDoorYE
set_option linter.unusedVariables false
set_option linter.unusedSimpArgs false
set_option linter.unnecessarySimpa false
set_option linter.unusedSectionVars false
set_option maxRecDepth 100000
namespace Go.Proofs.YtgaidmohdhaonaaGreatDoor
open Go Go.RowKit
end Go.Proofs.YtgaidmohdhaonaaGreatDoor
namespace Go.Proofs.YtgaidmohdhaonaaGreatDoor
open Go Go.ChangeShapes Go.WideShapes Go.ChangeAt Go.RowKit
theorem own:ownKnob Tryz.prog.godebug=none:=by kernel_rfl
theorem laidOut:laidOutB Tryz.prog=true:=by kernel_rfl
section
variable {H:Type} {enc:TypeId×Value→H} {W:World} {base:Nat}
theorem block_lt {w:World} {a:Addr} {v:Value} (h:w.cell? a=some v):a.block<w.heap.size:=by
 cases hb:w.heap[a.block]? with
 | none=>simp [World.cell?,hb] at h
 | some o=>exact lt_of_heap hb
theorem open_bat {fuel:Nat} {v:Value} {x:DataW H×List MemPlace} (h:DataW.trod enc Tryz.prog W 0 (fun _=>true) true fuel 22 [v]=some x) :
  ∃bs,BAt W v bs∧((x.1=.nil∧bs=[])∨∃el sp,x.1=.slice el sp∧bs.length≤el.length):=by
 rcases open_ints Tryz.underlying22 Tryz.underlying5 (by kernel_rfl) h with ⟨hcs,hx⟩|⟨a,len,cap,zs,hcs,_,hl,hm,hz,hx,hcell,hwz⟩
 ·obtain rfl:v=.slice none 0 0:=by simpa using hcs
  exact ⟨[],⟨none,0,rfl,by simp,by simp,fun _=>⟨rfl,rfl⟩,fun j hj=>by simp at hj⟩,.inl ⟨by rw [hx],rfl⟩⟩
 ·obtain rfl:v=.slice (some a) len cap:=by simpa using hcs
  simp only [if_true] at hz
  have hlen:((zs.take len).map fun n=>UInt8.ofNat n.toNat).length=len:=by simp;omega
  refine ⟨(zs.take len).map fun n=>UInt8.ofNat n.toNat,⟨some a,cap,by rw [hlen],by omega,by simpa [maxLen] using hm,(fun h=>by cases h),fun j hj=>?_⟩,.inr ⟨lits .u8 (zs.take len),lits .u8 (zs.drop len),by rw [hx],by simp [lits]⟩⟩
  rw [hlen] at hj
  have hj':j<zs.length:=by omega
  have hs:a.spot=none:=World.cell?_spot (by simpa [Addr.add] using hcell 0 (by omega))
  obtain ⟨b,o,sp⟩:=a
  simp only at hs
  subst hs
  have hc:=hcell j hj'
  rw [Addr.add_lit] at hc
  refine ⟨b,o,rfl,block_lt hc,?_⟩
  rw [hc]
  have hb:=range_u8 hwz j
  have e:zs.getD j 0=zs[j]:=by simp [List.getD,List.getElem?_eq_getElem hj']
  rw [List.getElem?_eq_getElem hj',Option.getD_some] at hb
  rw [e]
  unfold byteV
  congr 2
  simp only [List.getElem_map,List.getElem_take,UInt8.toNat_ofNat']
  omega
end
theorem crcTab_data:(Rows.laid_strata_wire_table:DataW Unit)=Lib.tabData .u32 (List.map (fun n:Nat=>(n:Int)) crcTab):=by rfl
theorem tabIn_of {W:World} {rest:List (String×DataW Unit)} (h:laidMet Tryz.prog (("strata/wire.table",Rows.laid_strata_wire_table) :: rest) W):TabIn W:=by
 rw [crcTab_data] at h
 have ht:=Lib.tabIs_of_head (rest:=rest) (g:=0) (t:=220) (e:=193) (n:=16) (by kernel_rfl) (by kernel_rfl) Tryz.underlying220 Tryz.underlying193 (by kernel_rfl) (by kernel_rfl) h
 refine ⟨?_,fun j t e=>?_⟩
 ·have h0:=World.var?_cell (g:=0) (by kernel_rfl) ht 0
  exact block_lt (a:=⟨0,0,none⟩) (v:=.int .u32 0) (by rw [h0];rfl)
 ·rw [World.var?_cell (g:=0) (by kernel_rfl) ht j]
  simp [e]
section
variable {H:Type} {enc:TypeId×Value→H} {W:World} {base:Nat}
def Sized (t:TypeId) (d:DataW H):Prop:=∀n∈d.weights Tryz.prog t,n≤140737488351232
theorem sized_of {ts:List TypeId} {ds:List (DataW H)} (h:(DataW.weightsEach Tryz.prog ts ds).all (·≤reachBytes)=true) {j:Nat} {t:TypeId} {d:DataW H} (ht:ts[j]? = some t) (hd:ds[j]? = some d):Sized t d:=by
 intro n hn
 have h1:=List.all_eq_true.1 h n (DataW.weights_mem_each ht hd n hn)
 have h3:reachBytes=140737488351232:=by decide
 have:=of_decide_eq_true h1
 omega
theorem sized_bytes {d:DataW H} (h:Sized 22 d) {bs:List UInt8} (hb:(d=.nil∧bs=[])∨∃el sp,d=.slice el sp∧bs.length≤el.length):bs.length≤140737488351232:=by
 rcases hb with ⟨-,rfl⟩|⟨el,sp,rfl,hl⟩
 ·simp
 ·have h1:=h ((el.length+sp.length)*Tryz.prog.bytesOf 5) (by simp [DataW.weights,Tryz.underlying22])
  have h2:Tryz.prog.bytesOf 5=1:=by kernel_rfl
  rw [h2] at h1
  omega
theorem cells7 {cs:List Value} (h:cs.length=7):∃c0 c1 c2 c3 c4 c5 c6,cs=[c0,c1,c2,c3,c4,c5,c6]:=by
 match cs,h with
 | [c0,c1,c2,c3,c4,c5,c6],_=>exact ⟨c0,c1,c2,c3,c4,c5,c6,rfl⟩
theorem cells8 {cs:List Value} (h:cs.length=8):∃c0 c1 c2 c3 c4 c5 c6 c7,cs=[c0,c1,c2,c3,c4,c5,c6,c7]:=by
 match cs,h with
 | [c0,c1,c2,c3,c4,c5,c6,c7],_=>exact ⟨c0,c1,c2,c3,c4,c5,c6,c7,rfl⟩
def I64 (n:Int):Prop:=-9223372036854775808≤n∧n≤9223372036854775807
def MetaIn (m:MetaA):Prop:=I64 m.num∧I64 m.count∧I64 m.index∧I64 m.low∧I64 m.clock∧I64 m.bytes∧m.first.length≤140737488351232∧m.last.length≤140737488351232
def VerIn (x:VerA):Prop:=I64 x.gen∧I64 x.flushed∧I64 x.next∧I64 x.low∧I64 x.clock∧x.state.length≤140737488351232∧x.runs.length*96≤140737488351232∧∀r∈x.runs,MetaIn r
theorem open_i64 {n:Nat} {c:Value} {y:DataW H×List MemPlace} (h:DataW.trod enc Tryz.prog W 0 (fun _=>true) true n 3 [c]=some y):∃z,c=.int .i64 z∧I64 z:=by
 obtain ⟨z,e,-,hw⟩:=DataW.trod_int Tryz.underlying3 h
 simp only [List.cons.injEq,and_true] at e
 have:=bounds_i64 hw
 exact ⟨z,e,this⟩
theorem open_meta {n:Nat} {cs:List Value} {x:DataW H×List MemPlace} (h:DataW.trod enc Tryz.prog W 0 (fun _=>true) true n 48 cs=some x) (hs:Sized 48 x.1) :
  ∃(m:MetaA) (f1 f2:Option Addr) (c1 c2:Nat),cs=[.int .i64 m.num,.int .i64 m.count,.int .i64 m.index,.int .i64 m.low,.int .i64 m.clock,.int .i64 m.bytes,.slice f1 m.first.length c1,.slice f2 m.last.length c2]∧BAt W (.slice f1 m.first.length c1) m.first∧BAt W (.slice f2 m.last.length c2) m.last∧MetaIn m:=by
 obtain ⟨xs,k,-,rfl,hl,hlen,hf⟩:=DataW.trod_struct Tryz.underlying48 h
 have hl8:cs.length=8:=hl.trans (by kernel_rfl)
 obtain ⟨c0,c1,c2,c3,c4,c5,c6,c7,rfl⟩:=cells8 hl8
 have ci:Tryz.prog.cellsOf 3=1:=by kernel_rfl
 have cb:Tryz.prog.cellsOf 22=1:=by kernel_rfl
 match xs,hlen with
 | [y0,y1,y2,y3,y4,y5,y6,y7],_=>
  have h0:DataW.trod enc Tryz.prog W 0 (fun _=>true) true k 3 [c0]=some y0:=by simpa [ci] using hf 0 _ rfl
  have h1:DataW.trod enc Tryz.prog W 0 (fun _=>true) true k 3 [c1]=some y1:=by simpa [ci] using hf 1 _ rfl
  have h2:DataW.trod enc Tryz.prog W 0 (fun _=>true) true k 3 [c2]=some y2:=by simpa [ci] using hf 2 _ rfl
  have h3:DataW.trod enc Tryz.prog W 0 (fun _=>true) true k 3 [c3]=some y3:=by simpa [ci] using hf 3 _ rfl
  have h4:DataW.trod enc Tryz.prog W 0 (fun _=>true) true k 3 [c4]=some y4:=by simpa [ci] using hf 4 _ rfl
  have h5:DataW.trod enc Tryz.prog W 0 (fun _=>true) true k 3 [c5]=some y5:=by simpa [ci] using hf 5 _ rfl
  have h6:DataW.trod enc Tryz.prog W 0 (fun _=>true) true k 22 [c6]=some y6:=by simpa [cb] using hf 6 _ rfl
  have h7:DataW.trod enc Tryz.prog W 0 (fun _=>true) true k 22 [c7]=some y7:=by simpa [cb] using hf 7 _ rfl
  obtain ⟨n0,rfl,b0⟩:=open_i64 h0
  obtain ⟨n1,rfl,b1⟩:=open_i64 h1
  obtain ⟨n2,rfl,b2⟩:=open_i64 h2
  obtain ⟨n3,rfl,b3⟩:=open_i64 h3
  obtain ⟨n4,rfl,b4⟩:=open_i64 h4
  obtain ⟨n5,rfl,b5⟩:=open_i64 h5
  obtain ⟨s6,hb6,hd6⟩:=open_bat h6
  obtain ⟨s7,hb7,hd7⟩:=open_bat h7
  have hw:∀(j:Nat) (d:DataW H),[y0.1,y1.1,y2.1,y3.1,y4.1,y5.1,y6.1,y7.1][j]? = some d→∀t,([3,3,3,3,3,3,22,22]:List TypeId)[j]? = some t→Sized t d:=by
   intro j d hd t ht m hm
   refine hs m ?_
   simp only [DataW.weights,Tryz.underlying48]
   exact DataW.weights_mem_each ht hd m hm
  have l6:=sized_bytes (hw 6 _ rfl _ rfl) hd6
  have l7:=sized_bytes (hw 7 _ rfl _ rfl) hd7
  obtain ⟨f1,e1,v1,-⟩:=id hb6
  obtain ⟨f2,e2,v2,-⟩:=id hb7
  subst v1;subst v2
  exact ⟨⟨n0,n1,n2,n3,n4,n5,s6,s7⟩,f1,f2,e1,e2,rfl,hb6,hb7,b0,b1,b2,b3,b4,b5,l6,l7⟩
theorem weightsAll_mem {e:TypeId} : ∀ {l:List (DataW H)} {d:DataW H},d∈l→∀n∈d.weights Tryz.prog e,n∈DataW.weightsAll Tryz.prog e l
 | d' :: r,d,hd,n,hn=>by
  simp only [DataW.weightsAll,List.mem_append]
  rcases List.mem_cons.1 hd with rfl|h
  ·exact Or.inl hn
  ·exact Or.inr (weightsAll_mem h n hn)
theorem open_runs {fuel:Nat} {v:Value} {x:DataW H×List MemPlace} (h:DataW.trod enc Tryz.prog W 0 (fun _=>true) true fuel 23 [v]=some x) (hs:Sized 23 x.1):∃l,RunsAt W v l∧l.length*96≤140737488351232∧∀r∈l,MetaIn r:=by
 rcases Go.Deep.open_slice Tryz.underlying23 h with ⟨hcs,_⟩|⟨a,len,cap,m,n,D,Pl,hcs,_,hl,hm,hmm,rfl,hx⟩
 ·obtain rfl:v=.slice none 0 0:=by simpa using hcs
  exact ⟨[],⟨none,0,rfl,by simp,by simp,fun k hk=>by simp at hk⟩,by simp,by simp⟩
 ·obtain rfl:v=.slice (some a) len cap:=by simpa using hcs
  simp only [if_true] at hmm
  have hm':cap≤9223372036854775807:=by simpa [maxLen] using hm
  have hsz:Tryz.prog.cellsOf 48=8:=by kernel_rfl
  rw [hsz] at hx
  have hlen:len*96≤140737488351232:=by
   have h1:=hs ((((List.range len).map D).length+((List.range (m-len)).map fun j=>D (len+j)).length)*Tryz.prog.bytesOf 48) (by simp [DataW.weights,Tryz.underlying23])
   have h2:Tryz.prog.bytesOf 48=96:=by kernel_rfl
   rw [h2] at h1
   simp at h1
   omega
  have hsd:∀i,i<len→Sized 48 (D i):=by
   intro i hi q hq
   refine hs q ?_
   simp only [DataW.weights,Tryz.underlying23,List.mem_cons,List.mem_append]
   exact .inr (.inl (weightsAll_mem (List.mem_map.2 ⟨i,by simpa using hi,rfl⟩) q hq))
  have hall:∀i,i<len→∃q:MetaA×(Option Addr×Nat)×(Option Addr×Nat),(∀j,j<8→W.cell? ((a.add (i*8)).add j)=[Value.int .i64 q.1.num,.int .i64 q.1.count,.int .i64 q.1.index,.int .i64 q.1.low,.int .i64 q.1.clock,.int .i64 q.1.bytes,.slice q.2.1.1 q.1.first.length q.2.1.2,.slice q.2.2.1 q.1.last.length q.2.2.2][j]?)∧
    BAt W (.slice q.2.1.1 q.1.first.length q.2.1.2) q.1.first∧BAt W (.slice q.2.2.1 q.1.last.length q.2.2.2) q.1.last∧MetaIn q.1:=by
   intro i hi
   obtain ⟨cs',h1,h2⟩:=hx i (by omega)
   obtain ⟨m,f1,f2,c1,c2,rfl,hb1,hb2,hin⟩:=open_meta h2 (hsd i hi)
   exact ⟨(m,(f1,c1),(f2,c2)),(World.cells?_some h1).2.2,hb1,hb2,hin⟩
  haveI:Inhabited (MetaA×(Option Addr×Nat)×(Option Addr×Nat)):=⟨(zeroMeta,(none,0),(none,0))⟩
  obtain ⟨F,hF⟩:=Go.Deep.choose_lt hall
  refine ⟨(List.range len).map fun i=>(F i).1,⟨some a,cap,by simp,by simpa using hl,hm',fun k hk=>?_⟩,by simpa using hlen,?_⟩
  ·have hk':k<len:=by simpa using hk
   obtain ⟨hc,hb1,hb2,-⟩:=hF k hk'
   have s0:=hc 0 (by omega);have s1:=hc 1 (by omega);have s2:=hc 2 (by omega);have s3:=hc 3 (by omega)
   have s4:=hc 4 (by omega);have s5:=hc 5 (by omega);have s6:=hc 6 (by omega);have s7:=hc 7 (by omega)
   have hsp:a.spot=none:=by
    have:=World.cell?_spot ((hF 0 (by omega)).1 0 (by omega))
    simpa [Addr.add] using this
   obtain ⟨b,o,sp⟩:=a
   simp only at hsp
   subst hsp
   rw [Go.Deep.add_add,Addr.add_lit] at s0 s1 s2 s3 s4 s5 s6 s7
   have hlt:=block_lt s0
   refine ⟨b,o,(F k).2.1.1,(F k).2.1.2,(F k).2.2.1,(F k).2.2.2,rfl,hlt,?_⟩
   simp only [List.getElem_map,List.getElem_range]
   exact ⟨by simpa using s0,by simpa [Nat.add_assoc] using s1,by simpa [Nat.add_assoc] using s2,by simpa [Nat.add_assoc] using s3,by simpa [Nat.add_assoc] using s4,by simpa [Nat.add_assoc] using s5,by simpa [Nat.add_assoc] using s6,by simpa [Nat.add_assoc] using s7,hb1,hb2⟩
  ·intro r hr
   obtain ⟨i,hi,rfl⟩:=List.mem_map.1 hr
   exact (hF i (by simpa using hi)).2.2.2
theorem open_ver {n:Nat} {cs:List Value} {x:DataW H×List MemPlace} (h:DataW.trod enc Tryz.prog W 0 (fun _=>true) true n 25 cs=some x) (hs:Sized 25 x.1) :
  ∃y:VerA,VerAt W (.agg cs.toArray) y∧VerIn y:=by
 obtain ⟨xs,k,-,rfl,hl,hlen,hf⟩:=DataW.trod_struct Tryz.underlying25 h
 have hl7:cs.length=7:=hl.trans (by kernel_rfl)
 obtain ⟨c0,c1,c2,c3,c4,c5,c6,rfl⟩:=cells7 hl7
 have ci:Tryz.prog.cellsOf 3=1:=by kernel_rfl
 have cb:Tryz.prog.cellsOf 22=1:=by kernel_rfl
 have cr:Tryz.prog.cellsOf 23=1:=by kernel_rfl
 match xs,hlen with
 | [y0,y1,y2,y3,y4,y5,y6],_=>
  have h0:DataW.trod enc Tryz.prog W 0 (fun _=>true) true k 3 [c0]=some y0:=by simpa [ci] using hf 0 _ rfl
  have h1:DataW.trod enc Tryz.prog W 0 (fun _=>true) true k 3 [c1]=some y1:=by simpa [ci] using hf 1 _ rfl
  have h2:DataW.trod enc Tryz.prog W 0 (fun _=>true) true k 3 [c2]=some y2:=by simpa [ci] using hf 2 _ rfl
  have h3:DataW.trod enc Tryz.prog W 0 (fun _=>true) true k 3 [c3]=some y3:=by simpa [ci] using hf 3 _ rfl
  have h4:DataW.trod enc Tryz.prog W 0 (fun _=>true) true k 3 [c4]=some y4:=by simpa [ci] using hf 4 _ rfl
  have h5:DataW.trod enc Tryz.prog W 0 (fun _=>true) true k 22 [c5]=some y5:=by simpa [cb] using hf 5 _ rfl
  have h6:DataW.trod enc Tryz.prog W 0 (fun _=>true) true k 23 [c6]=some y6:=by simpa [cr] using hf 6 _ rfl
  obtain ⟨n0,rfl,b0⟩:=open_i64 h0
  obtain ⟨n1,rfl,b1⟩:=open_i64 h1
  obtain ⟨n2,rfl,b2⟩:=open_i64 h2
  obtain ⟨n3,rfl,b3⟩:=open_i64 h3
  obtain ⟨n4,rfl,b4⟩:=open_i64 h4
  have hw:∀(j:Nat) (d:DataW H),[y0.1,y1.1,y2.1,y3.1,y4.1,y5.1,y6.1][j]? = some d→∀t,([3,3,3,3,3,22,23]:List TypeId)[j]? = some t→Sized t d:=by
   intro j d hd t ht m hm
   refine hs m ?_
   simp only [DataW.weights,Tryz.underlying25]
   exact DataW.weights_mem_each ht hd m hm
  obtain ⟨s5,hb5,hd5⟩:=open_bat h5
  have l5:=sized_bytes (hw 5 _ rfl _ rfl) hd5
  obtain ⟨rl,hrl,hll,hin⟩:=open_runs h6 (hw 6 _ rfl _ rfl)
  obtain ⟨f1,e1,v1,-⟩:=id hb5
  obtain ⟨f2,e2,v2,-⟩:=id hrl
  subst v1;subst v2
  exact ⟨⟨n0,n1,n2,n3,n4,s5,rl⟩,⟨f1,e1,f2,e2,rfl,hb5,hrl⟩,b0,b1,b2,b3,b4,l5,hll,hin⟩
end
end Go.Proofs.YtgaidmohdhaonaaGreatDoor
