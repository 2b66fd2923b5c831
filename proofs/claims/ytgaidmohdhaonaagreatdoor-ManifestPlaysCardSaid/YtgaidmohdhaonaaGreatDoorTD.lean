/-
  The document's disk in memory, alike to a plain one: Arm, Crash, Flip, Append of any bytes.
-/
import Derived.Test.YtgaidmohdhaonaaGreatDoorSX
import Derived.Test.YtgaidmohdhaonaaGreatDoorRI
import Derived.Test.YtgaidmohdhaonaaGreatDoorRH
import Derived.Test.YtgaidmohdhaonaaGreatDoorGE
import Derived.Test.YtgaidmohdhaonaaGreatDoorSD
import Derived.Test.YtgaidmohdhaonaaGreatDoorRA
import Derived.Test.YtgaidmohdhaonaaGreatDoorYT
import Derived.Test.YtgaidmohdhaonaaGreatDoorSU
import Derived.Test.YtgaidmohdhaonaaGreatDoorYK
set_option linter.unusedVariables false
set_option linter.unusedSimpArgs false
set_option linter.unnecessarySimpa false
set_option linter.unusedSectionVars false
set_option maxRecDepth 100000
set_option maxHeartbeats 3200000
namespace Go.Proofs.YtgaidmohdhaonaaGreatDoor
open Go Go.RowKit
theorem cFlip_n {a b:DiskA} (h:AlikeN a b) (hnd:NamesND a) (n:ByteArray) (bit:Int):(cFlip a n bit).1=(cFlip b n bit).1∧AlikeN (cFlip a n bit).2 (cFlip b n bit).2:=by
 unfold cFlip
 rw [h.find hnd]
 split
 ·exact ⟨rfl,h⟩
 ·split
  ·exact ⟨rfl,h⟩
  ·split
   ·exact ⟨rfl,h⟩
   ·exact ⟨rfl,h.cap,h.files.map _,h.down,h.armed⟩
theorem BAt.oldT {w:World} {v:Value} {bs:List UInt8} (h:BAt w v bs):∀a l c,v=.slice (some a) l c→0<l→a.block<w.heap.size:=by
 obtain ⟨ao,cap,rfl,h1,h2,h3,h4⟩:=h
 intro a l c e h0
 injection e with e1 e2 e3
 subst e1;subst e2
 obtain ⟨g,o,e,hg,-⟩:=h4 0 h0
 injection e with e
 subst e
 exact hg
def armP (a:DiskA) (n:Int):DiskA:=if a.down then a else { a with armed:=max n 0 }
theorem armP_abs (s:DS) (n:Int):(if s.down then s else { s with armed:=max n 0 }).abs=armP s.abs n:=by
 unfold armP
 rw [show s.abs.down=s.down from rfl]
 cases s.down<;>rfl
section
variable {w:World} {r:RS} {a:DiskA}
theorem RA.arm (h:RA w r a) (n:Int) (hn:n≤9223372036854775807):Calls Tryz.prog 116 #[.pointer (some ⟨r.p,0,none⟩),.int .i64 n] w fun e w'=>e=.returned (.tuple #[])∧∃r2,RGo w w' r r2 (armP a n):=by
 refine (refArm_any h.ins n hn).mono ?_
 rintro e w' ⟨he,hst⟩
 refine ⟨he,_,hst,hst.ins,?_,?_⟩
 ·cases r.off<;>exact h.so
 ·unfold armP
  rw [←h.al.down,show r.abs.down=r.off from rfl]
  cases hoff:r.off
  ·exact ⟨h.al.cap,h.al.files,rfl,rfl⟩
  ·exact h.al
theorem RA.flip (h:RA w r a) (n:ByteArray) (bit:Int) (hb:bit≤9223372036854775807):Calls Tryz.prog 121 #[.pointer (some ⟨r.p,0,none⟩),.string n,.int .i64 bit] w fun e w'=>e=.returned (.int .i64 (cFlip a n bit).1)∧∃r2,RGo w w' r r2 (cFlip a n bit).2:=by
 obtain ⟨h1,h2⟩:=cFlip_n h.al h.nd n bit
 rw [←h1]
 refine (refFlip_any h.ins h.so n bit hb).mono ?_
 rintro e w' ⟨he,r2,hst,hal,hso⟩
 exact ⟨he,r2,hst,hst.ins,hso,hal.n.trans h2⟩
theorem RA.crash {w0 w1:World} {s s2:DS} {cv:Value} {cuts:List Int} (hs:s.In w0) (hs2:s2.In w1) (h:RA w r s.abs) (habs:s2.abs = { s.abs with files:=(crashF cuts s.abs.files).1,down:=false,armed:=0 }) (hcv:IntsAt w cv cuts) (hout:∀a l c,cv=.slice (some a) l c→0<l→¬r.own a.block∧a.block<w.heap.size) :
  Calls Tryz.prog 117 #[.pointer (some ⟨r.p,0,none⟩),cv] w fun e w'=>e=.returned (.int .i64 (crashF cuts s.abs.files).2)∧∃r2,RGo w w' r r2 s2.abs:=by
 have hF:r.abs.files=fileList s:=sorted_fileList (r:={ r with cnt:=s.cnt }) hs ⟨h.al.symm.cap,h.al.symm.files,h.al.symm.down,h.al.symm.armed,rfl⟩ h.so
 obtain ⟨c1,c2⟩:=crash_files hs (s2:=s2) (cuts:=cuts) (by rw [habs])
 refine (refCrash_any h.ins h.so hcv hout).mono ?_
 rintro e w' ⟨he,r2,hst,hab,hso⟩
 rw [hF,←c2] at he
 rw [hF,←c1] at hab
 refine ⟨he,r2,hst,hst.ins,hso,?_⟩
 rw [hab]
 have hp:=fileList_files_perm hs2
 refine ⟨?_,hp,?_,?_⟩
 ·rw [habs];exact h.al.cap
 ·rw [habs]
 ·rw [habs]
theorem refAppend_long (h:RA w r a) (n:ByteArray) {ao:Option Addr} {l c:Nat} (hl:1000000000<l) (hlc:l≤9223372036854775807) :
  Calls Tryz.prog 119 #[.pointer (some ⟨r.p,0,none⟩),.string n,.slice ao l c] w fun e w'=>e=.returned (.int .i64 (if lookP a n false≠0 then lookP a n false else 2))∧w'=w:=by
 have hk:=refAsked_any h.ins n
 rw [asked_eq,h.al.look h.nd,←lookP_C] at hk
 obtain ⟨p,hp⟩:∃p,p=r.p:=⟨_,rfl⟩
 obtain ⟨k,hkk⟩:∃k,k=lookP a n false:=⟨_,rfl⟩
 rw [←hp,←hkk] at hk
 rw [←hp,←hkk]
 have HK:=hid hk
 have hl2:(67108864:Int)<(l:Int):=by omega
 clear hk hp hkk h
 go_enter Tryz.func119,Tryz.ntmps119
 go_wp2_with fail
 refine HK.out.mono ?_
 rintro e W ⟨rfl,hww⟩
 obtain rfl:=hww.symm
 by_cases hz:k=0
 ·subst hz
  go_wp2
  go_ret
  exact ⟨rfl,rfl⟩
 ·have hne:(k != 0)=true:=by simpa using hz
  have HZ:=hid hz
  clear hz
  go_wp2
  go_ret
  exact ⟨rfl,rfl⟩
theorem RA.append' (h:RA w r a) (n:ByteArray) {v:Value} {bs:List UInt8} (hv:BAt w v bs) (hvb:∀a l c,v=.slice (some a) l c→0<l→¬r.own a.block∧a.block<w.heap.size) :
  Calls Tryz.prog 119 #[.pointer (some ⟨r.p,0,none⟩),.string n,v] w fun e w'=>e=.returned (.int .i64 (appendP a n bs).1)∧∃r2,RGo w w' r r2 (appendP a n bs).2:=by
 by_cases hl:bs.length≤1000000000
 ·exact h.append n hv.bytes hvb hl
 ·obtain ⟨ao,c,rfl,h1,h2,-⟩:=hv
  have he:appendP a n bs=(if lookP a n false≠0 then lookP a n false else 2,a):=by
   unfold appendP
   by_cases hz:lookP a n false≠0
   ·rw [if_pos hz,if_pos hz]
   ·rw [if_neg hz,if_neg hz,if_pos (by omega)]
  rw [he]
  refine (refAppend_long h n (by omega) (by omega)).mono ?_
  rintro e w' ⟨rfl,rfl⟩
  exact ⟨rfl,r,RGo.refl h⟩
end
end Go.Proofs.YtgaidmohdhaonaaGreatDoor
namespace Go.Proofs.YtgaidmohdhaonaaGreatDoor
open Go Go.ChangeShapes Go.WideShapes Go.ChangeAt Go.RowKit
open Go.ChangeMaps (open_string shut_string)
structure OpT where
 kind:Int
 obj:Int
 v:VerA
 n:Int
 name:ByteArray
 b:List UInt8
 cuts:List Int
structure OpQ where
 s1:Option Addr
 d1:Nat
 s2:Option Addr
 d2:Nat
 s3:Option Addr
 d3:Nat
 s4:Option Addr
 d4:Nat
def OpT.cells (o:OpT) (q:OpQ):List Value:=[.int .i64 o.kind,.int .i64 o.obj,.int .i64 o.v.gen,.int .i64 o.v.flushed,.int .i64 o.v.next,.int .i64 o.v.low,.int .i64 o.v.clock,.slice q.s1 o.v.state.length q.d1,.slice q.s2 o.v.runs.length q.d2,.int .i64 o.n,.string o.name,.slice q.s3 o.b.length q.d3,.slice q.s4 o.cuts.length q.d4]
structure OpAt (w:World) (o:OpT) (q:OpQ):Prop where
 st:BAt w (.slice q.s1 o.v.state.length q.d1) o.v.state
 rs:RunsAt w (.slice q.s2 o.v.runs.length q.d2) o.v.runs
 by':BAt w (.slice q.s3 o.b.length q.d3) o.b
 cu:IntsAt w (.slice q.s4 o.cuts.length q.d4) o.cuts
 lo:∀a l c,Value.slice q.s4 o.cuts.length q.d4=.slice (some a) l c→0<l→a.block<w.heap.size
def OpIn (o:OpT):Prop:=I64 o.obj∧I64 o.n∧o.name.size≤140737488355328∧o.b.length≤140737488351232∧VerIn o.v
theorem OpAt.keep {w w':World} {o:OpT} {q:OpQ} (h:OpAt w o q) (hu:Upd (fun _=>False) w w'):OpAt w' o q:=by
 refine ⟨h.st.keep hu,h.rs.keep hu,h.by'.keep hu,?_,fun a l c e h0=>Nat.lt_of_lt_of_le (h.lo a l c e h0) hu.size⟩
 obtain ⟨ao,cap,e,h1,h2⟩:=h.cu
 refine ⟨ao,cap,e,h1,fun k hk=>?_⟩
 obtain ⟨a,ha,hs,hc⟩:=h2 k hk
 refine ⟨a,ha,hs,fun j hj=>hu.cell (block_lt (a:=⟨a.block,a.off+j,none⟩) (hc j hj)) (hc j hj)⟩
theorem OpAt.ver {w:World} {o:OpT} {q:OpQ} (h:OpAt w o q):VerAt w (.agg #[.int .i64 o.v.gen,.int .i64 o.v.flushed,.int .i64 o.v.next,.int .i64 o.v.low,.int .i64 o.v.clock,.slice q.s1 o.v.state.length q.d1,.slice q.s2 o.v.runs.length q.d2]) o.v:=⟨q.s1,q.d1,q.s2,q.d2,rfl,h.st,h.rs⟩
def OpsAtT (w:World) (v:Value) (l:List OpT):Prop:=
 ∃ao cap,v=.slice ao l.length cap∧l.length≤cap∧cap≤9223372036854775807∧∀k (hk:k<l.length),∃b o q,ao=some ⟨b,o,none⟩∧b<w.heap.size∧(∀j,j<13→w.cell? ⟨b,o+k*13+j,none⟩=(l[k].cells q)[j]?)∧OpAt w l[k] q
section
variable {H:Type} {enc:TypeId×Value→H} {W:World} {base:Nat}
theorem cells13 {cs:List Value} (h:cs.length=13):∃c0 c1 c2 c3 c4 c5 c6 c7 c8 c9 c10 c11 c12,cs=[c0,c1,c2,c3,c4,c5,c6,c7,c8,c9,c10,c11,c12]:=by
 match cs,h with
 | [c0,c1,c2,c3,c4,c5,c6,c7,c8,c9,c10,c11,c12],_=>exact ⟨c0,c1,c2,c3,c4,c5,c6,c7,c8,c9,c10,c11,c12,rfl⟩
theorem sized_strT {d:DataW H} (h:Sized 9 d) {s:ByteArray} (hd:d=.lit (.string s.data.toList)):s.size≤140737488355328:=by
 subst hd
 have h1:=h s.data.toList.length (by simp [DataW.weights])
 have h2:s.data.toList.length=s.size:=by simp
 omega
theorem open_opT {n:Nat} {cs:List Value} {x:DataW H×List MemPlace} (h:DataW.trod enc Tryz.prog W 0 (fun _=>true) true n 109 cs=some x) (hs:Sized 109 x.1) :
  ∃(o:OpT) (q:OpQ),cs=o.cells q∧OpAt W o q∧OpIn o:=by
 obtain ⟨xs,k,-,rfl,hl,hlen,hf⟩:=DataW.trod_struct Tryz.underlying109 h
 have hl13:cs.length=13:=hl.trans (by kernel_rfl)
 obtain ⟨c0,c1,c2,c3,c4,c5,c6,c7,c8,c9,c10,c11,c12,rfl⟩:=cells13 hl13
 have ci:Tryz.prog.cellsOf 3=1:=by kernel_rfl
 have cs0:Tryz.prog.cellsOf 9=1:=by kernel_rfl
 have cb:Tryz.prog.cellsOf 22=1:=by kernel_rfl
 have cz:Tryz.prog.cellsOf 77=1:=by kernel_rfl
 have cv:Tryz.prog.cellsOf 25=7:=by kernel_rfl
 match xs,hlen with
 | [y0,y1,y2,y3,y4,y5,y6],_=>
  have h0:DataW.trod enc Tryz.prog W 0 (fun _=>true) true k 3 [c0]=some y0:=by simpa [ci] using hf 0 _ rfl
  have h1:DataW.trod enc Tryz.prog W 0 (fun _=>true) true k 3 [c1]=some y1:=by simpa [ci] using hf 1 _ rfl
  have h2:DataW.trod enc Tryz.prog W 0 (fun _=>true) true k 25 [c2,c3,c4,c5,c6,c7,c8]=some y2:=by simpa [ci,cv] using hf 2 _ rfl
  have h3:DataW.trod enc Tryz.prog W 0 (fun _=>true) true k 3 [c9]=some y3:=by simpa [ci,cv] using hf 3 _ rfl
  have h4:DataW.trod enc Tryz.prog W 0 (fun _=>true) true k 9 [c10]=some y4:=by simpa [ci,cv,cs0] using hf 4 _ rfl
  have h5:DataW.trod enc Tryz.prog W 0 (fun _=>true) true k 22 [c11]=some y5:=by simpa [ci,cv,cs0,cb] using hf 5 _ rfl
  have h6:DataW.trod enc Tryz.prog W 0 (fun _=>true) true k 77 [c12]=some y6:=by simpa [ci,cv,cs0,cb,cz] using hf 6 _ rfl
  obtain ⟨n0,rfl,b0⟩:=open_i64 h0
  obtain ⟨n1,rfl,b1⟩:=open_i64 h1
  obtain ⟨n3,rfl,b3⟩:=open_i64 h3
  have hw:∀(j:Nat) (d:DataW H),[y0.1,y1.1,y2.1,y3.1,y4.1,y5.1,y6.1][j]? = some d→∀t,([3,3,25,3,9,22,77]:List TypeId)[j]? = some t→Sized t d:=by
   intro j d hd t ht m hm
   refine hs m ?_
   simp only [DataW.weights,Tryz.underlying109]
   exact DataW.weights_mem_each ht hd m hm
  obtain ⟨y,⟨s1,d1,s2,d2,hv,hst,hrs⟩,hin⟩:=open_ver h2 (hw 2 _ rfl _ rfl)
  have hv':[c2,c3,c4,c5,c6,c7,c8]=[Value.int .i64 y.gen,.int .i64 y.flushed,.int .i64 y.next,.int .i64 y.low,.int .i64 y.clock,.slice s1 y.state.length d1,.slice s2 y.runs.length d2]:=by
   injection hv with hv
   have:=congrArg Array.toList hv
   simpa using this
  simp only [List.cons.injEq,and_true] at hv'
  obtain ⟨rfl,rfl,rfl,rfl,rfl,rfl,rfl⟩:=hv'
  obtain ⟨s,e4,hd4,-⟩:=DataW.trod_string Tryz.underlying9 h4
  simp only [List.cons.injEq,and_true] at e4
  subst e4
  have ls:=sized_strT (hw 4 _ rfl _ rfl) (congrArg Prod.fst hd4)
  obtain ⟨bs,hb5,hd5⟩:=open_bat h5
  have l5:=sized_bytes (hw 5 _ rfl _ rfl) hd5
  obtain ⟨zs,hz,-,hzlow⟩:=open_intsV h6
  obtain ⟨f1,e1,v1,-⟩:=id hb5
  obtain ⟨f2,e2,v2,-⟩:=id hz
  subst v1;subst v2
  exact ⟨⟨n0,n1,y,n3,s,bs,zs⟩,⟨s1,d1,s2,d2,f1,e1,f2,e2⟩,rfl,⟨hst,hrs,hb5,hz,hzlow⟩,b1,b3,ls,l5,hin⟩
theorem open_opsT {fuel:Nat} {v:Value} {x:DataW H×List MemPlace} (h:DataW.trod enc Tryz.prog W 0 (fun _=>true) true fuel 104 [v]=some x) (hs:Sized 104 x.1):∃l,OpsAtT W v l∧∀r∈l,OpIn r:=by
 rcases Go.Deep.open_slice Tryz.underlying104 h with ⟨hcs,_⟩|⟨a,len,cap,m,n,D,Pl,hcs,_,hl,hm,hmm,rfl,hx⟩
 ·obtain rfl:v=.slice none 0 0:=by simpa using hcs
  exact ⟨[],⟨none,0,rfl,by simp,by simp,fun k hk=>by simp at hk⟩,by simp⟩
 ·obtain rfl:v=.slice (some a) len cap:=by simpa using hcs
  simp only [if_true] at hmm
  have hm':cap≤9223372036854775807:=by simpa [maxLen] using hm
  have hsz:Tryz.prog.cellsOf 109=13:=by kernel_rfl
  rw [hsz] at hx
  have hsd:∀i,i<len→Sized 109 (D i):=by
   intro i hi q hq
   refine hs q ?_
   simp only [DataW.weights,Tryz.underlying104,List.mem_cons,List.mem_append]
   exact .inr (.inl (weightsAll_mem (List.mem_map.2 ⟨i,by simpa using hi,rfl⟩) q hq))
  have hall:∀i,i<len→∃q:OpT×OpQ,(∀j,j<13→W.cell? ((a.add (i*13)).add j)=(q.1.cells q.2)[j]?)∧OpAt W q.1 q.2∧OpIn q.1:=by
   intro i hi
   obtain ⟨cs',h1,h2⟩:=hx i (by omega)
   obtain ⟨o,q,rfl,hq,hin⟩:=open_opT h2 (hsd i hi)
   exact ⟨(o,q),(World.cells?_some h1).2.2,hq,hin⟩
  haveI:Inhabited (OpT×OpQ):=⟨(⟨0,0,zeroVer,0,ByteArray.empty,[],[]⟩,⟨none,0,none,0,none,0,none,0⟩)⟩
  obtain ⟨F,hF⟩:=Go.Deep.choose_lt hall
  refine ⟨(List.range len).map fun i=>(F i).1,⟨some a,cap,by simp,by simpa using hl,hm',fun k hk=>?_⟩,?_⟩
  ·have hk':k<len:=by simpa using hk
   obtain ⟨hc,hq,-⟩:=hF k hk'
   have hsp:a.spot=none:=by
    have:=World.cell?_spot ((hF 0 (by omega)).1 0 (by omega))
    simpa [Addr.add] using this
   obtain ⟨b,o,sp⟩:=a
   simp only at hsp
   subst hsp
   have hcc:∀j,j<13→W.cell? ⟨b,o+k*13+j,none⟩=((F k).1.cells (F k).2)[j]?:=fun j hj=>by
    have h:=hc j hj
    rw [Go.Deep.add_add,Addr.add_lit] at h
    rw [←h,Nat.add_assoc]
   have s0:=hcc 0 (by omega)
   have hlt:=block_lt s0
   refine ⟨b,o,(F k).2,rfl,hlt,?_⟩
   simp only [List.getElem_map,List.getElem_range]
   exact ⟨hcc,hq⟩
  ·intro r hr
   obtain ⟨i,hi,rfl⟩:=List.mem_map.1 hr
   exact (hF i (by simpa using hi)).2.2
end
end Go.Proofs.YtgaidmohdhaonaaGreatDoor
namespace Go.Proofs.YtgaidmohdhaonaaGreatDoor
open Go Go.RowKit
theorem Strs.at' {w W:World} {v:Value} {l:List ByteArray} (h:Strs w W v l):StrsAt W v l:=by
 obtain ⟨ao,c,e,h1,h2⟩:=h.shape
 refine ⟨ao,c,e,h1,h2,fun k hk=>?_⟩
 obtain ⟨g,c',e',hg,hc⟩:=h.at hk
 rw [e] at e'
 injection e' with e1 _ _
 exact ⟨g,0,e1,hg,by rw [Nat.zero_add];exact hc⟩
theorem sameNames_yes {w:World} {v1 v2:Value} {l:List ByteArray} (h1:StrsAt w v1 l) (h2:StrsAt w v2 l) :
  Calls Tryz.prog 103 #[v1,v2] w fun e w'=>e=.returned (.bool true)∧Upd (fun _=>False) w w':=by
 obtain ⟨a1,c1,rfl,hc1,hm1,hs1⟩:=h1
 obtain ⟨a2,c2,rfl,hc2,hm2,hs2⟩:=h2
 have S1:=hid hs1;have S2:=hid hs2
 clear hs1 hs2
 obtain ⟨L,hL⟩:∃L,L=l.length:=⟨_,rfl⟩
 have HL:=hid hL
 rw [←hL] at hc1 hc2⊢
 clear hL
 have hb:((L:Int) != (L:Int))=false:=by simp
 go_enter Tryz.func103,Tryz.ntmps103
 go_wp2
 go_loopw [5] (fun i wr=>∃k:Nat,k≤L∧i=.int .i64 k∧Upd (fun _=>False) w wr) (fun i _=>L-(intOf i).toNat)
 case atStart=>exact ⟨0,Nat.zero_le _,rfl,Upd.refl _ _⟩
 case round=>
  obtain ⟨k,hk,rfl,hup⟩:=hrel
  have Ka:=hid hup
  clear hup
  by_cases hlt:k<L
  ·have hkl:k<l.length:=by have:=HL.out;omega
   obtain ⟨g1,o1,rfl,hg1,d1⟩:=S1.out k hkl
   obtain ⟨g2,o2,rfl,hg2,d2⟩:=S2.out k hkl
   obtain ⟨f,hf⟩:∃f,f=l[k]:=⟨_,rfl⟩
   rw [←hf] at d1 d2
   have d1':=Ka.out.cell hg1 d1
   have d2':=Ka.out.cell hg2 d2
   have hq:(f.toList==f.toList)=true:=by simp
   have hwr:=Ka.out.size
   clear d1 d2 hf hkl
   go_wp2_with fail
   go_quiet (fail)
   go_wp2
   go_roundw
   case rel=>exact ⟨k+1,by omega,by go_num,Ka.out.drewN _⟩
   case measure=>simp [intOf];omega
  ·obtain rfl:k=L:=by omega
   go_wp2
   go_ret
   exact ⟨rfl,Ka.out⟩
theorem sameFiles10_any {w:World} {b1 b2:Nat} {v1 v2:Value} {l1 l2:List FV} (h1:FilesAt w b1 v1 l1) (h2:FilesAt w b2 v2 l2) :
  Calls Tryz.prog 52 #[v1,v2] w fun e w'=>∃b,e=.returned (.bool b)∧(b=true↔l1.map FV.abs=l2.map FV.abs)∧Upd (fun _=>False) w w':=by
 obtain ⟨a1,c1,rfl,hc1,hm1,hs1⟩:=h1.shape
 obtain ⟨a2,c2,rfl,hc2,hm2,hs2⟩:=h2.shape
 have H1:=hid h1;have H2:=hid h2;have S1:=hid hs1;have S2:=hid hs2
 have hm1':l1.length≤9223372036854775807:=Nat.le_trans hc1 (by simpa [maxLen] using hm1)
 have hm2':l2.length≤9223372036854775807:=Nat.le_trans hc2 (by simpa [maxLen] using hm2)
 clear h1 h2 hs1 hs2
 by_cases hl:¬l1.length=l2.length
 ·have hb:((l1.length:Int) != (l2.length:Int))=true:=by simp;omega
  have HL:=hid hl
  clear hl
  go_enter Tryz.func52,Tryz.ntmps52
  go_wp2
  go_ret
  exact ⟨false,rfl,⟨(fun h=>by cases h),fun h=>absurd (by simpa using congrArg List.length h) HL.out⟩,Upd.refl _ _⟩
 have hl:l1.length=l2.length:=by omega
 have hb:((l1.length:Int) != (l2.length:Int))=false:=by simp [hl]
 have HL:=hid hl
 clear hl
 go_enter Tryz.func52,Tryz.ntmps52
 go_wp2
 go_loopw [5] (fun i wr=>∃k:Nat,k≤l1.length∧i=.int .i64 k∧(∀j (h1:j<l1.length) (h2:j<l2.length),j<k→l1[j].abs=l2[j].abs)∧Upd (fun _=>False) w wr) (fun i _=>l1.length-(intOf i).toNat)
 case atStart=>exact ⟨0,Nat.zero_le _,rfl,by simp,Upd.refl _ _⟩
 case round=>
  obtain ⟨k,hk,rfl,heq,hup⟩:=hrel
  have Kc:=hid heq;have Ka:=hid hup
  clear heq hup
  by_cases hlt:k<l1.length
  ·have hlt2:k<l2.length:=by have:=HL.out;omega
   obtain ⟨g1,rfl,hg1,hg1',d0,d1,d2⟩:=S1.out k hlt
   obtain ⟨g2,rfl,hg2,hg2',e0,e1,e2⟩:=S2.out k hlt2
   have hby1:=(H1.out.data l1[k] (List.getElem_mem hlt)).bat
   have hby2:=(H2.out.data l2[k] (List.getElem_mem hlt2)).bat
   have lt1:=(H1.out.data l1[k] (List.getElem_mem hlt)).lt
   have lt2:=(H2.out.data l2[k] (List.getElem_mem hlt2)).lt
   obtain ⟨p1,q1,hv1,-⟩:=(H1.out.data l1[k] (List.getElem_mem hlt)).shape
   obtain ⟨p2,q2,hv2,-⟩:=(H2.out.data l2[k] (List.getElem_mem hlt2)).shape
   obtain ⟨f1,hf1⟩:∃f,f=l1[k]:=⟨_,rfl⟩
   obtain ⟨f2,hf2⟩:∃f,f=l2[k]:=⟨_,rfl⟩
   rw [←hf1] at d0 d1 d2 hby1 lt1 hv1
   rw [←hf2] at e0 e1 e2 hby2 lt2 hv2
   have d0':wr.cell? ⟨g1,k*3,none⟩=some (.string f1.name):=by rw [World.cell?_of_block (w:=w) (Ka.out.block g1 hg1' (fun h=>h))];exact d0
   have d1':wr.cell? ⟨g1,k*3+1,none⟩=some (.slice p1 f1.data.length q1):=by rw [World.cell?_of_block (w:=w) (Ka.out.block g1 hg1' (fun h=>h))];exact d1.trans (by rw [hv1])
   have d2':wr.cell? ⟨g1,k*3+2,none⟩=some (.int .i64 f1.synced):=by rw [World.cell?_of_block (w:=w) (Ka.out.block g1 hg1' (fun h=>h))];exact d2
   have e0':wr.cell? ⟨g2,k*3,none⟩=some (.string f2.name):=by rw [World.cell?_of_block (w:=w) (Ka.out.block g2 hg2' (fun h=>h))];exact e0
   have e1':wr.cell? ⟨g2,k*3+1,none⟩=some (.slice p2 f2.data.length q2):=by rw [World.cell?_of_block (w:=w) (Ka.out.block g2 hg2' (fun h=>h))];exact e1.trans (by rw [hv2])
   have e2':wr.cell? ⟨g2,k*3+2,none⟩=some (.int .i64 f2.synced):=by rw [World.cell?_of_block (w:=w) (Ka.out.block g2 hg2' (fun h=>h))];exact e2
   have hsame:∀n,Calls Tryz.prog 23 #[.slice p1 f1.data.length q1,.slice p2 f2.data.length q2] (wr.drewN n) fun e w'=>e=.returned (.bool (decide (f1.data=f2.data)))∧w'=wr.drewN n:=by
    intro n
    have b1:=hby1.keep (Ka.out.drewN n)
    have b2:=hby2.keep (Ka.out.drewN n)
    rw [hv1] at b1
    rw [hv2] at b2
    exact lawSame_any b1 b2
   have Kd:=hid hsame
   have hq:=beq_toList f1.name f2.name
   have F1:=hid hf1;have F2:=hid hf2
   clear d0 d1 d2 e0 e1 e2 hby1 hby2 lt1 lt2 hv1 hv2 hsame hf1 hf2
   have hwr:=Ka.out.size
   by_cases hn:f1.name=f2.name
   ·have hq':(f1.name.toList==f2.name.toList)=true:=by rw [hq];simpa using hn
    by_cases hs:f1.synced=f2.synced
    ·have hs':((f1.synced:Int) != (f2.synced:Int))=false:=by simp [hs]
     by_cases hd:f1.data=f2.data
     ·have Kb:=hid (fun n=>(Kd.out n).mono (fun e w' h=>(show e=.returned (.bool true)∧w'=wr.drewN n from ⟨h.1.trans (by simp [hd]),h.2⟩)))
      have HE:=hid (show f1.abs=f2.abs by unfold FV.abs;rw [hn,hs,hd])
      clear hq hn hs hd
      go_wp2_with fail
      go_quiet ((go_at_call 23;exact Calls.quiet_of_same (Kb.out _)))
      go_wp2
      go_roundw
      case rel=>
       refine ⟨k+1,by omega,by go_num,fun j h1 h2 hj=>?_,Ka.out.drewN _⟩
       by_cases hjk:j<k
       ·exact Kc.out j h1 h2 hjk
       ·obtain rfl:j=k:=by omega
        rw [←F1.out,←F2.out];exact HE.out
      case measure=>simp [intOf];omega
     ·have Kb:=hid (fun n=>(Kd.out n).mono (fun e w' h=>(show e=.returned (.bool false)∧w'=wr.drewN n from ⟨h.1.trans (by simp [hd]),h.2⟩)))
      have HE:=hid (show f1.abs≠f2.abs by intro h;exact hd (congrArg FileA.data h))
      clear hq hn hs hd
      go_wp2_with fail
      go_quiet ((go_at_call 23;exact Calls.quiet_of_same (Kb.out _)))
      go_wp2
      go_ret
      exact ⟨false,rfl,⟨(fun h=>by cases h),fun h=>absurd h (map_abs_ne hlt hlt2 (by rw [←F1.out,←F2.out];exact HE.out))⟩,Ka.out.drewN _⟩
    ·have hs':((f1.synced:Int) != (f2.synced:Int))=true:=by simp;omega
     have HE:=hid (show f1.abs≠f2.abs by intro h;exact hs (congrArg FileA.synced h))
     clear hq hn hs
     go_wp2_with fail
     go_quiet (fail)
     go_wp2
     go_ret
     exact ⟨false,rfl,⟨(fun h=>by cases h),fun h=>absurd h (map_abs_ne hlt hlt2 (by rw [←F1.out,←F2.out];exact HE.out))⟩,Ka.out.drewN _⟩
   ·have hq':(f1.name.toList==f2.name.toList)=false:=by rw [hq];simpa using hn
    have HE:=hid (show f1.abs≠f2.abs by intro h;exact hn (congrArg FileA.name h))
    clear hq hn
    go_wp2_with fail
    go_quiet (fail)
    go_wp2
    go_ret
    exact ⟨false,rfl,⟨(fun h=>by cases h),fun h=>absurd h (map_abs_ne hlt hlt2 (by rw [←F1.out,←F2.out];exact HE.out))⟩,Ka.out.drewN _⟩
  ·obtain rfl:k=l1.length:=by omega
   go_wp2
   go_ret
   exact ⟨true,rfl,⟨fun _=>map_abs_eq HL.out (fun j h1 h2=>Kc.out j h1 h2 h1),fun _=>rfl⟩,Ka.out⟩
theorem loadNil_any (w:World) (pre:ByteArray) :
  Calls Tryz.prog 20 #[.pointer none,.string pre] w fun e w'=>e=.returned (.tuple #[.agg (verC 0 0 0 0 0 (.slice none 0 0) (.slice none 0 0)),.bool false,.int .i64 1])∧Upd (fun _=>False) w w':=by
 have Ka:=hid ((Upd.refl (fun _=>False) w).alloc (.cells (verC 0 0 0 0 0 (.slice none 0 0) (.slice none 0 0)) 25))
 have HB:=hid (heap_alloc_new w (.cells (verC 0 0 0 0 0 (.slice none 0 0) (.slice none 0 0)) 25))
 go_enter Tryz.func20,Tryz.ntmps20
 go_upto_region 1 with fail
 obtain ⟨p4,hp4⟩:∃p4,p4=w.heap.size:=⟨_,rfl⟩
 rw [←hp4] at HB⊢
 generalize w.alloc (.cells #[.int .i64 0,.int .i64 0,.int .i64 0,.int .i64 0,.int .i64 0,.slice none 0 0,.slice none 0 0] 25)=W1 at Ka HB⊢
 have Kb:=hid hp4
 clear hp4
 have HA:=hid (askedNil_any W1 pre)
 go_wp2_with fail
 refine HA.out.mono ?_
 rintro e W ⟨rfl,hww⟩
 obtain rfl:=hww.symm
 obtain ⟨⟨q0,q1,q2,q3,q4,q5,q6⟩,⟨z0,z1,z2,z3,z4,z5,z6⟩,hql⟩:=verCells HB.out
 have HO:=hid (And.intro (verOut_at HB.out 0 0 0 0 0 (.slice none 0 0) (.slice none 0 0)) (verOut_upd Ka.out (p:=p4) (fun e=>by have:=Kb.out;omega) 0 0 0 0 0 (.slice none 0 0) (.slice none 0 0)))
 go_wp2
 (try simp only [Exit.inBlock,Exit.then])
 refine bodyPost_ret (results_ver3 rfl _ _ p4 _ rfl rfl HO.out.1) rfl ?_
 exact ⟨rfl,HO.out.2⟩
theorem sweepNil_any (w:World) (pre:ByteArray) {v:Value} {x:VerA} (hv:VerAt w v x) :
  Calls Tryz.prog 42 #[.pointer none,.string pre,v] w fun e w'=>e=.returned (.tuple #[.slice none 0 0,.int .i64 1])∧Upd (fun _=>False) w w':=by
 obtain ⟨s1,d1,s2,d2,rfl,-,-⟩:=hv
 obtain ⟨m1,hm1⟩:∃m,m=x.state.length:=⟨_,rfl⟩
 obtain ⟨nx,hnx⟩:∃m,m=x.runs.length:=⟨_,rfl⟩
 rw [←hm1,←hnx]
 clear hm1 hnx
 have Ka:=hid ((Upd.refl (fun _=>False) w).alloc (.cells #[.int .i64 x.gen,.int .i64 x.flushed,.int .i64 x.next,.int .i64 x.low,.int .i64 x.clock,.slice s1 m1 d1,.slice s2 nx d2] 25))
 go_enter Tryz.func42,Tryz.ntmps42
 go_upto_region 1 with fail
 generalize w.alloc (.cells #[.int .i64 x.gen,.int .i64 x.flushed,.int .i64 x.next,.int .i64 x.low,.int .i64 x.clock,.slice s1 m1 d1,.slice s2 nx d2] 25)=W1 at Ka⊢
 have HA:=hid (askedNil_any W1 pre)
 go_wp2_with fail
 refine HA.out.mono ?_
 rintro e W ⟨rfl,hww⟩
 obtain rfl:=hww.symm
 go_wp2
 go_ret2
 exact ⟨rfl,Ka.out⟩
theorem swapNil_any (w:World) (pre:ByteArray) {v:Value} {x:VerA} (hv:VerAt w v x) :
  Calls Tryz.prog 14 #[.pointer none,.string pre,v] w fun e w'=>e=.returned (.int .i64 1)∧Upd (fun _=>False) w w':=by
 obtain ⟨s1,d1,s2,d2,rfl,-,-⟩:=hv
 obtain ⟨m1,hm1⟩:∃m,m=x.state.length:=⟨_,rfl⟩
 obtain ⟨m2,hm2⟩:∃m,m=x.runs.length:=⟨_,rfl⟩
 rw [←hm1,←hm2]
 clear hm1 hm2
 obtain ⟨W4,hW4⟩:∃W,W=(((w.alloc (.cells #[.pointer none] 28)).alloc (.cells #[.string pre] 9)).alloc (.cells #[.int .i64 x.gen,.int .i64 x.flushed,.int .i64 x.next,.int .i64 x.low,.int .i64 x.clock,.slice s1 m1 d1,.slice s2 m2 d2] 25)).alloc (.cells #[.int .i64 0] 29):=⟨_,rfl⟩
 have hu4:Upd (fun _=>False) w W4:=by rw [hW4];exact ((((Upd.refl _ w).alloc _).alloc _).alloc _).alloc _
 obtain ⟨r1,r2,r3,r4⟩:=rows4 w (.cells #[.pointer none] 28) (.cells #[.string pre] 9) (.cells #[.int .i64 x.gen,.int .i64 x.flushed,.int .i64 x.next,.int .i64 x.low,.int .i64 x.clock,.slice s1 m1 d1,.slice s2 m2 d2] 25) (.cells #[.int .i64 0] 29)
 rw [←hW4] at r1 r2 r3 r4
 obtain ⟨bd,hbd⟩:∃b,b=w.heap.size:=⟨_,rfl⟩
 obtain ⟨bp,hbp⟩:∃b,b=w.heap.size+1:=⟨_,rfl⟩
 obtain ⟨bx,hbx⟩:∃b,b=w.heap.size+1+1:=⟨_,rfl⟩
 obtain ⟨be,hbe⟩:∃b,b=w.heap.size+1+1+1:=⟨_,rfl⟩
 rw [←hbd] at r1;rw [←hbp] at r2;rw [←hbx] at r3;rw [←hbe] at r4
 have Kf:=hid hu4
 have Kg:=hid (show w.heap.size≤be from by omega)
 have Kb:=hid hbd;have Kc:=hid hbp;have Kd:=hid hbx;have Ke:=hid hbe;have Kh:=hid hW4;have Ka:=hid r4
 have hp12:True:=trivial
 have cd:W4.cell? ⟨bd,0,none⟩=some (.pointer none):=cell_of_row _ _ 0 _ _ _ r1
 have cp:W4.cell? ⟨bp,0,none⟩=some (.string pre):=cell_of_row _ _ 0 _ _ _ r2
 clear hW4 hu4 r1 r2 r3 r4 hbd hbp hbx hbe
 go_enter_defers Tryz.func14,Tryz.ntmps14
 go_upto_region 1 with fail
 have hW:=Kh.out
 rw [←hW,←Ke.out,←Kd.out,←Kc.out,←Kb.out]
 clear hW
 have HA:=hid (askedNil_any W4 pre)
 go_wp2_with fail
 refine HA.out.mono ?_
 rintro e W ⟨rfl,hww⟩
 obtain rfl:=hww.symm
 have h1:=heap_setCell_at W4 be 0 _ _ (.int .i64 1) Ka.out
 have h2:(W4.setCell ⟨be,0,none⟩ (.int .i64 1)).heap[be]? = some (.cells #[.int .i64 1] 29 (0,0)):=h1
 have HX:=hid (show (W4.setCell ⟨be,0,none⟩ (.int .i64 1)).cell? ⟨be,0,none⟩=some (.int .i64 1) from by rw [cell_of_row _ be 0 _ _ _ h2];rfl)
 have Ki:=hid (show Upd (fun _=>False) w (W4.setCell ⟨be,0,none⟩ (.int .i64 1)) from Kf.out.trans (Upd.cell_only W4 be 0 (.int .i64 1)) (fun k hk e=>by have:=Kg.out;subst e;omega))
 have ce:W4.cell? ⟨be,0,none⟩=some (.int .i64 0):=cell_of_row _ _ 0 _ _ _ Ka.out
 have ze:W4.frozen? ⟨be,0,none⟩=false:=frozen_of_row _ _ _ _ _ Ka.out
 clear h1 h2
 go_wp2
 refine ⟨_,results_errno rfl _ _ ⟨be,0,none⟩ _ rfl HX.out,?_⟩
 exact ⟨rfl,Ki.out⟩
end Go.Proofs.YtgaidmohdhaonaaGreatDoor
