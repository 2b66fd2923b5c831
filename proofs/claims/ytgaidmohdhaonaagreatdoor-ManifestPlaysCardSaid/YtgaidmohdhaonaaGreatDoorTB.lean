/-
  Package strataref10, walked: there, Load.
  Package strataref10, walked: Swap.
-/
import Derived.Test.YtgaidmohdhaonaaGreatDoorSX
import Derived.Test.YtgaidmohdhaonaaGreatDoorYK
import Derived.Test.YtgaidmohdhaonaaGreatDoorYS
import Derived.Test.YtgaidmohdhaonaaGreatDoorYP
set_option linter.unusedVariables false
set_option linter.unusedSimpArgs false
set_option linter.unnecessarySimpa false
set_option linter.unusedSectionVars false
set_option maxRecDepth 100000
set_option maxHeartbeats 6400000
namespace Go.Proofs.YtgaidmohdhaonaaGreatDoor
open Go Go.RowKit
theorem refThere10_any {w : World} {r : RS} {a : DiskA} (hr : RA w r a) (n : ByteArray) :
    Calls Tryz.prog 180 #[.pointer (some ⟨r.p,0,none⟩),.string n] w fun e w'=>e=.returned (.bool (findP a.files n).isSome)∧Upd (fun _=>False) w w':=by
  have HF:=hid (refFiles_any hr.ins)
  have Ka:=hid (show (findP a.files n).isSome=(findA r.abs.files n).isSome from by rw [findP_A,←hr.al.find hr.nd])
  obtain ⟨B,hB⟩:∃B,B=(findP a.files n).isSome:=⟨_,rfl⟩
  rw [←hB] at Ka⊢
  obtain ⟨p,hp⟩:∃p,p=r.p:=⟨_,rfl⟩
  rw [←hp] at HF⊢
  have HC:=hid hr.ins.count
  clear hp hB hr
  go_enter Tryz.func180,Tryz.ntmps180
  go_wp2_with fail
  refine HF.out.mono ?_
  rintro e W ⟨v,l,rfl,hfa,habs,hu⟩
  have HU:=hid hu
  obtain ⟨ao,cap,rfl,hcap,hmx,hat⟩:=hfa.shape
  have Kd:=hid hat
  obtain ⟨L,hL⟩:∃L,L=l.length:=⟨_,rfl⟩
  have hL256:L≤256:=by
    have h1:=congrArg List.length habs
    have h2:=HC.out
    simp only [RS.abs,List.length_map] at h1
    omega
  have Kb:=hid (show B=(findA (l.map FV.abs) n).isSome from by rw [Ka.out,habs];rfl)
  rw [←hL] at hcap⊢
  have HL:=hid hL
  clear hat hL habs hu hfa HF Ka
  go_wp2
  go_loopw [6] (fun i wr=>∃k:Nat,k≤L∧i=.int .i64 k∧(∀j (hj:j<l.length),j<k→l[j].name≠n)∧wr=W) (fun i _=>L-(intOf i).toNat)
  case atStart=>exact ⟨0,Nat.zero_le _,rfl,by simp,rfl⟩
  case round=>
    obtain ⟨k,hk,rfl,hno,hwe⟩:=hrel
    obtain rfl:=hwe.symm
    have Kc:=hid hno
    clear hno
    by_cases hlt:k<L
    · have hkl:k<l.length:=by have:=HL.out;omega
      obtain ⟨g,rfl,hg1,hg2,d0,d1,d2⟩:=Kd.out k hkl
      obtain ⟨f,hf⟩:∃f,f=l[k]:=⟨_,rfl⟩
      rw [←hf] at d0
      have hq:=beq_toList f.name n
      clear d1 d2
      by_cases he:f.name=n
      · rw [decide_eq_true he] at hq
        have HE:=hid (show (findA (l.map FV.abs) n).isSome=true from by
          unfold findA
          rw [List.find?_isSome]
          exact ⟨l[k].abs,List.mem_map.2 ⟨_,List.getElem_mem hkl,rfl⟩,by rw [←hf];simp [FV.abs,he,beq_bytes]⟩)
        clear he hf
        go_wp2
        go_ret
        exact ⟨by rw [Kb.out,HE.out];rfl,HU.out⟩
      · rw [decide_eq_false he] at hq
        have HE:=hid (show l[k].name≠n from by rw [←hf];exact he)
        clear he hf
        go_wp2
        go_roundw
        case rel => exact ⟨k + 1, by omega, by go_num, fun j hj hjk => by rcases Nat.lt_or_eq_of_le (Nat.le_of_lt_succ hjk) with h | h
                                                                          · exact Kc.out j hj h
                                                                          · subst h;exact HE.out,by first|rfl|trivial⟩
        case measure=>simp [intOf];omega
    · have HE := hid (show (findA (l.map FV.abs) n).isSome = false from by
        have hkL:k=l.length:=by have:=HL.out;omega
        unfold findA
        rw [Bool.eq_false_iff]
        intro h
        rw [List.find?_isSome] at h
        obtain ⟨f,hf,he⟩:=h
        obtain ⟨y,hy,rfl⟩:=List.mem_map.1 hf
        obtain ⟨j,hj,rfl⟩:=List.getElem_of_mem hy
        exact Kc.out j hj (by omega) (by simpa [FV.abs,beq_bytes] using he))
      obtain rfl:k=L:=by omega
      go_wp2
      go_ret
      exact ⟨by rw [Kb.out,HE.out];rfl,HU.out⟩
def LoadKept (w':World) (base:Nat) (e:Ending):Option VerA×Int→Prop
 | (none,k)=>e=.returned (.tuple #[.agg (verC 0 0 0 0 0 (.slice none 0 0) (.slice none 0 0)),.bool false,.int .i64 k])
 | (some x,_)=>∃v,e=.returned (.tuple #[v,.bool true,.int .i64 0])∧∀(S:Nat→Prop) W',(∀k,S k→k<base)→Upd S w' W'→VerAt W' v x
theorem refLoad10_any {w:World} {r:RS} {a:DiskA} (hr:RA w r a) (pre:ByteArray) (hp:pre.size≤140737488355328) :
  Calls Tryz.prog 112 #[.pointer (some ⟨r.p,0,none⟩),.string pre] w fun e w'=>LoadKept w' w.heap.size e (loadP a pre).1∧∃r2,RGo w w' r r2 (loadP a pre).2:=by
 have Kg:=hid hr
 have hu1:=(Upd.refl (fun _=>False) w).alloc (.cells (verC 0 0 0 0 0 (.slice none 0 0) (.slice none 0 0)) 25)
 have Kh:=hid hu1
 have HB:=hid (heap_alloc_new w (.cells (verC 0 0 0 0 0 (.slice none 0 0) (.slice none 0 0)) 25))
 have HR:=hid (hr.keep hu1)
 obtain ⟨O,hO⟩:∃O,O=loadP a pre:=⟨_,rfl⟩
 rw [←hO]
 unfold loadP at hO
 have Ki:=hid hO
 have hp1:¬(9223372036854775807<pre.size+8):=by omega
 obtain ⟨p4,hp4⟩:∃p4,p4=w.heap.size:=⟨_,rfl⟩
 rw [←hp4] at HB
 have Kd:=hid hp4
 have Ko:=hid (show ¬r.own p4 from fun e=>by have:=hr.ins.lt e;omega)
 obtain ⟨rp,hrp⟩:∃p,p=r.p:=⟨_,rfl⟩
 have Kj:=hid hrp
 rw [←hrp]
 clear hO hr hu1 hp4 hrp
 go_enter Tryz.func112,Tryz.ntmps112
 go_upto_region 1 with fail
 rw [←Kd.out]
 generalize w.alloc (.cells #[.int .i64 0,.int .i64 0,.int .i64 0,.int .i64 0,.int .i64 0,.slice none 0 0,.slice none 0 0] 25)=W1 at Kh HB HR⊢
 have HA:=hid (HR.out.refused pre hp)
 rw [←Kj.out] at HA
 obtain ⟨e0,he0⟩:∃e0,e0=askedP a pre:=⟨_,rfl⟩
 rw [←he0] at HA Ki
 clear he0
 go_wp2_with fail
 refine HA.out.mono ?_
 rintro e W ⟨rfl,hww⟩
 obtain rfl:=hww.symm
 by_cases hz:e0=0
 ·subst hz
  have hO:=Ki.out
  rw [if_neg (by decide)] at hO
  have Kk:=hid hO
  clear hO
  have HZ:=hid (HR.out.size (pre++nameB))
  rw [←Kj.out] at HZ
  have Kp:=hid (fun (W:World) (h:RA W r a)=>h.read (pre++nameB))
  obtain ⟨e1,he1⟩:∃e1,e1=lookP a (pre++nameB) true:=⟨_,rfl⟩
  obtain ⟨n1,hn1⟩:∃n1,n1=sizeP a (pre++nameB):=⟨_,rfl⟩
  obtain ⟨dt,hdt⟩:∃dt,dt=((findP a.files (pre++nameB)).map (·.data)).getD []:=⟨_,rfl⟩
  rw [←he1,←hn1] at HZ
  rw [←he1,←hn1,←hdt,←Kj.out] at Kp
  rw [←he1,←hdt] at Kk
  clear he1 hn1 hdt
  go_wp2_with fail
  refine HZ.out.mono ?_
  rintro e W ⟨rfl,huz⟩
  have Kl:=hid (Kh.out.trans huz (fun _ _ e=>e));have Ke:=hid (huz.get HB.out (fun e=>e));have Ku:=hid (HR.out.keep huz)
  clear huz
  by_cases hz1:e1=0
  ·subst hz1
   have hO:=Kk.out
   rw [if_neg (by decide)] at hO
   have Kq:=hid hO
   clear hO
   go_wp2_with fail
   refine (Kp.out W Ku.out (by first|trivial|rfl)).mono ?_
   rintro e W2 ⟨v,rfl,hdv,hnv,⟨r2,hst⟩,hdl⟩
   have Kr:=hid ((RGo.of_upd Kg.out Kl.out).trans hst);have Ky:=hid hdv
   have Km:=hid (hst.st.upd.get Ke.out Ko.out)
   have Kf:=hid (show ¬r2.own p4 from fun e=>(hst.st.foot p4 e).elim Ko.out (fun e=>by have:=lt_of_heap Ke.out;omega))
   have Kv:=hid (show w.heap.size≤W2.heap.size from Nat.le_trans Kl.out.size hst.st.upd.size)
   have Kw:=hid (refDecode_kept hdv.bat (by omega))
   clear hst hdv hnv hdl
   go_wp2_with fail
   refine Kw.out.mono ?_
   rintro e W3 ⟨hres,hu3⟩
   rw [←decode_alike] at hres
   cases hdc:decodeA dt with
   | none=>
    rw [hdc] at hres
    obtain rfl:=hres
    have Kn:=hid (show O=((none,100),readP a) from by rw [Kq.out,hdc])
    clear hdc
    go_upto_region 9 with fail
    have hua:=(Upd.refl (fun _=>False) W3).alloc (.cells (verC 0 0 0 0 0 (.slice none 0 0) (.slice none 0 0)) 25)
    have Ka:=hid (hu3.trans hua (fun _ _ e=>e))
    have Kb:=hid (Ka.out.get Km.out (fun e=>e))
    have Kc:=hid (heap_alloc_new W3 (.cells (verC 0 0 0 0 0 (.slice none 0 0) (.slice none 0 0)) 25))
    obtain ⟨p11,hp11⟩:∃p,p=W3.heap.size:=⟨_,rfl⟩
    rw [←hp11] at Kc
    rw [←hp11]
    generalize W3.alloc (.cells #[.int .i64 0,.int .i64 0,.int .i64 0,.int .i64 0,.int .i64 0,.slice none 0 0,.slice none 0 0] 25)=W4 at Ka Kb Kc⊢
    obtain ⟨⟨q0,q1,q2,q3,q4,q5,q6⟩,⟨z0,z1,z2,z3,z4,z5,z6⟩,hql⟩:=verCells Kb.out
    obtain ⟨⟨v0,v1,v2,v3,v4,v5,v6⟩,-,hvl⟩:=verCells Kc.out
    clear hua hu3 hp11
    go_wp2
    (try simp only [Exit.inBlock,Exit.then])
    have HO:=hid (verOut_at Kb.out 0 0 0 0 0 (.slice none 0 0) (.slice none 0 0))
    refine bodyPost_ret (results_ver3 rfl _ _ p4 _ rfl rfl HO.out) rfl ?_
    rw [Kn.out]
    exact ⟨rfl,_,Kr.out.then_upd (verOut_upd (S:=fun k=>k=p4) (Ka.out.mono (fun _ _ e=>e.elim)) (p:=p4) (fun _=>rfl) 0 0 0 0 0 (.slice none 0 0) (.slice none 0 0)) (fun k e=>by rw [e];exact ⟨by have:=Kd.out;omega,Kf.out⟩)⟩
   | some x=>
    rw [hdc] at hres
    obtain ⟨v',rfl,hown⟩:=hres
    have Kn:=hid (show O=((some x,0),readP a) from by rw [Kq.out,hdc])
    have Ks:=hid hown
    obtain ⟨a1,c1,a2,c2,e,-,-⟩:=hown (fun _=>False) W3 (fun _ e=>e.elim) (Upd.refl _ _)
    obtain ⟨m1,hm1⟩:∃m,m=x.state.length:=⟨_,rfl⟩
    obtain ⟨m2,hm2⟩:∃m,m=x.runs.length:=⟨_,rfl⟩
    obtain ⟨y1,hy1⟩:∃y,y=x.gen:=⟨_,rfl⟩
    obtain ⟨y2,hy2⟩:∃y,y=x.flushed:=⟨_,rfl⟩
    obtain ⟨y3,hy3⟩:∃y,y=x.next:=⟨_,rfl⟩
    obtain ⟨y4,hy4⟩:∃y,y=x.low:=⟨_,rfl⟩
    obtain ⟨y5,hy5⟩:∃y,y=x.clock:=⟨_,rfl⟩
    rw [←hm1,←hm2,←hy1,←hy2,←hy3,←hy4,←hy5] at e
    subst e
    clear hdc hown hm1 hm2 hy1 hy2 hy3 hy4 hy5
    go_upto_region 9 with fail
    have hua:=(Upd.refl (fun _=>False) W3).alloc (.cells (verC y1 y2 y3 y4 y5 (.slice a1 m1 c1) (.slice a2 m2 c2)) 25)
    have Kt:=hid hua
    have Ka:=hid (hu3.trans hua (fun _ _ e=>e))
    have Kb:=hid (Ka.out.get Km.out (fun e=>e))
    have Kc:=hid (heap_alloc_new W3 (.cells (verC y1 y2 y3 y4 y5 (.slice a1 m1 c1) (.slice a2 m2 c2)) 25))
    obtain ⟨p11,hp11⟩:∃p,p=W3.heap.size:=⟨_,rfl⟩
    rw [←hp11] at Kc
    rw [←hp11]
    generalize W3.alloc (.cells #[.int .i64 y1,.int .i64 y2,.int .i64 y3,.int .i64 y4,.int .i64 y5,.slice a1 m1 c1,.slice a2 m2 c2] 25)=W4 at Kt Ka Kb Kc⊢
    obtain ⟨⟨q0,q1,q2,q3,q4,q5,q6⟩,⟨z0,z1,z2,z3,z4,z5,z6⟩,hql⟩:=verCells Kb.out
    obtain ⟨⟨v0,v1,v2,v3,v4,v5,v6⟩,-,hvl⟩:=verCells Kc.out
    have Kx:=hid (show p4<W2.heap.size from lt_of_heap Km.out)
    clear hua hu3 hp11
    go_wp2
    (try simp only [Exit.inBlock,Exit.then])
    have HO:=hid (verOut_at Kb.out y1 y2 y3 y4 y5 (.slice a1 m1 c1) (.slice a2 m2 c2))
    refine bodyPost_ret (results_ver3 rfl _ _ p4 _ rfl rfl HO.out) rfl ?_
    rw [Kn.out]
    refine ⟨⟨_,rfl,fun S W' hS hu=>?_⟩,_,Kr.out.then_upd (verOut_upd (S:=fun k=>k=p4) (Ka.out.mono (fun _ _ e=>e.elim)) (p:=p4) (fun _=>rfl) y1 y2 y3 y4 y5 (.slice a1 m1 c1) (.slice a2 m2 c2)) (fun k e=>by rw [e];exact ⟨by have:=Kd.out;omega,Kf.out⟩)⟩
    have h5:=verOut_upd (S:=fun k=>k=p4∨S k) (Kt.out.mono (fun _ _ e=>e.elim)) (p:=p4) (fun _=>.inl rfl) y1 y2 y3 y4 y5 (.slice a1 m1 c1) (.slice a2 m2 c2)
    exact Ks.out (fun k=>k=p4∨S k) W' (fun k hk=>hk.elim (fun e=>by have:=Kx.out;omega) (fun e=>by have:=hS k e;have:=Kv.out;omega)) (h5.trans (hu.mono (fun _ _ e=>.inr e)) (fun _ _ e=>e))
  ·have HD:=hid (show O=((none,0),a) from by rw [Kk.out,if_pos hz1])
   have hnb:(e1 != 0)=true:=by simpa using hz1
   clear hz1
   obtain ⟨⟨q0,q1,q2,q3,q4,q5,q6⟩,⟨z0,z1,z2,z3,z4,z5,z6⟩,hql⟩:=verCells Ke.out
   have HO:=hid (And.intro (verOut_at Ke.out 0 0 0 0 0 (.slice none 0 0) (.slice none 0 0)) (verOut_upd Kl.out (p:=p4) (fun e=>by have:=Kd.out;omega) 0 0 0 0 0 (.slice none 0 0) (.slice none 0 0)))
   go_wp2
   (try simp only [Exit.inBlock,Exit.then])
   refine bodyPost_ret (results_ver3 rfl _ _ p4 _ rfl rfl HO.out.1) rfl ?_
   rw [HD.out]
   exact ⟨rfl,r,RGo.of_upd Kg.out HO.out.2⟩
 ·have HD:=hid (show O=((none,e0),a) from by rw [Ki.out,if_pos hz])
  have hnb:(e0 != 0)=true:=by simpa using hz
  clear hz
  obtain ⟨⟨q0,q1,q2,q3,q4,q5,q6⟩,⟨z0,z1,z2,z3,z4,z5,z6⟩,hql⟩:=verCells HB.out
  have HO:=hid (And.intro (verOut_at HB.out 0 0 0 0 0 (.slice none 0 0) (.slice none 0 0)) (verOut_upd Kh.out (p:=p4) (fun e=>by have:=Kd.out;omega) 0 0 0 0 0 (.slice none 0 0) (.slice none 0 0)))
  go_wp2
  (try simp only [Exit.inBlock,Exit.then])
  refine bodyPost_ret (results_ver3 rfl _ _ p4 _ rfl rfl HO.out.1) rfl ?_
  rw [HD.out]
  exact ⟨rfl,r,RGo.of_upd Kg.out HO.out.2⟩
theorem encodeB_small {x:VerA} (h:okA x=true):(encodeB x).length≤1000000000:=by
 have h1:=(body_len h).1
 have h2:∀n,(lowB n).length=4:=fun _=>rfl
 have h3:∀n,(highB n).length=4:=fun _=>rfl
 unfold encodeB frameB
 simp only [List.length_append,h2,h3]
 have h4:magicB.length=8:=rfl
 omega
theorem LoadKept.shape {w':World} {base:Nat} {e:Ending} {a:DiskA} {pre:ByteArray} (h:LoadKept w' base e (loadP a pre).1) :
  ∃g0 y2 y3 y4 y5 a1 m1 c1 a2 m2 c2 isb,e=.returned (.tuple #[.agg #[.int .i64 g0,.int .i64 y2,.int .i64 y3,.int .i64 y4,.int .i64 y5,.slice a1 m1 c1,.slice a2 m2 c2],.bool isb,.int .i64 (loadP a pre).1.2])∧
   g0=((loadP a pre).1.1.map (·.gen)).getD 0∧0≤g0∧g0≤1099511627776:=by
 rcases hl:(loadP a pre).1 with ⟨o,k⟩
 rw [hl] at h
 cases o with
 | none=>exact ⟨0,0,0,0,0,none,0,0,none,0,0,false,h,rfl,by omega,by omega⟩
 | some x=>
  obtain ⟨rfl,hok⟩:=loadP_some hl
  obtain ⟨v,rfl,hown⟩:=h
  obtain ⟨s1,d1,s2,d2,rfl,-,-⟩:=hown (fun _=>False) w' (fun _ e=>e.elim) (Upd.refl _ _)
  have:=okA_gen hok
  exact ⟨x.gen,x.flushed,x.next,x.low,x.clock,s1,x.state.length,d1,s2,x.runs.length,d2,true,rfl,rfl,by omega,this.2⟩
theorem RGo.out {w w':World} {r r2:RS} {a:DiskA} (h:RGo w w' r r2 a) {k:Nat} (hk:k<w.heap.size) (hn:¬r.own k):¬r2.own k:=fun e=>(h.st.foot k e).elim hn (fun e=>by omega)
structure SwJ (w W:World) (r rk:RS) (a:DiskA) (v:Value) (bs:List UInt8):Prop where
 go:RGo w W r rk a
 data:DataIs W v bs
 out:∀k,v.ownBlock=some k→¬rk.own k
theorem SwJ.act {w W W':World} {r rk r2:RS} {a a2:DiskA} {v:Value} {bs:List UInt8} (h:SwJ w W r rk a v bs) (hg:RGo W W' rk r2 a2):SwJ w W' r r2 a2 v bs:=
 ⟨h.go.trans hg,h.data.upd hg.st.upd (fun k e hs=>h.out k e hs),fun k e=>hg.out (h.data.lt k e) (h.out k e)⟩
theorem SwJ.quiet {w W W':World} {r rk:RS} {a:DiskA} {v:Value} {bs:List UInt8} (h:SwJ w W r rk a v bs) (hu:Upd (fun _=>False) W W'):SwJ w W' r rk a v bs:=h.act (RGo.of_upd h.go.ra hu)
theorem look_there {a:DiskA} {pre:ByteArray} (h:askedP a pre=0):lookP (loadP a pre).2 (pre++tempB) true=0↔(findP (loadP a pre).2.files (pre++tempB)).isSome=true:=by
 have h1:(loadP a pre).2.down=a.down∧(loadP a pre).2.files=a.files:=by
  unfold loadP
  split
  ·exact ⟨rfl,rfl⟩
  split
  ·exact ⟨rfl,rfl⟩
  split<;>exact ⟨rfl,rfl⟩
 rw [askedP_cases] at h
 have hd:a.down=false:=by
  cases hd:a.down with
  | false=>rfl
  | true=>rw [hd,if_pos rfl] at h;exact absurd h (by decide)
 have hn:nameOk (pre++tempB).data.toList=true:=by
  cases hn:nameOk (pre++tempB).data.toList with
  | true=>rfl
  | false=>rw [hd,hn,if_neg (by decide),if_pos rfl] at h;exact absurd h (by decide)
 unfold lookP lookRes
 rw [h1.1,h1.2,hd,hn]
 cases (findP a.files (pre++tempB)).isSome<;>simp
def strokeB (p:Int×DiskA) (tmp nm:ByteArray):Int×DiskA:=if p.1≠0 then p else strokeS (syncP p.2 tmp) tmp nm
theorem checkA_of (x:VerA):(checkA x=0∧okA x=true)∨(checkA x=101∧okA x=false):=by
 unfold checkA
 cases okA x<;>simp
theorem refSwap10_any {w:World} {r:RS} {a:DiskA} {v:Value} {x:VerA} (hr:RA w r a) (pre:ByteArray) (hp:pre.size≤140737488355328) (hvk:∀W',Upd r.own w W'→VerAt W' v x) (hl:∀r∈x.runs,r.first.length≤140737488351232∧r.last.length≤140737488351232) :
  Calls Tryz.prog 162 #[.pointer (some ⟨r.p,0,none⟩),.string pre,v] w fun e w'=>e=.returned (.int .i64 (swapP a pre x).1)∧∃r2,RGo w w' r r2 (swapP a pre x).2:=by
 obtain ⟨O,hO⟩:∃O,O=swapP a pre x:=⟨_,rfl⟩
 rw [←hO]
 unfold swapP at hO
 have Kf:=hid hO
 have hv:=hvk w (Upd.refl _ _)
 have Ky:=hid hr;have Kz:=hid hvk;have Za:=hid hv;have HL:=hid hl
 obtain ⟨s1,d1,s2,d2,rfl,-,-⟩:=hv
 obtain ⟨m1,hm1⟩:∃m,m=x.state.length:=⟨_,rfl⟩
 obtain ⟨m2,hm2⟩:∃m,m=x.runs.length:=⟨_,rfl⟩
 obtain ⟨xg,hxg⟩:∃g,g=x.gen:=⟨_,rfl⟩
 rw [←hm1,←hm2,←hxg] at Za Kz
 rw [←hm1,←hm2,←hxg]
 have Ko:=hid hxg
 obtain ⟨rp,hrp⟩:∃p,p=r.p:=⟨_,rfl⟩
 have Kc:=hid hrp
 rw [←hrp]
 have Kg:=hid ((Upd.refl (fun _=>False) w).alloc (.cells #[.int .i64 xg,.int .i64 x.flushed,.int .i64 x.next,.int .i64 x.low,.int .i64 x.clock,.slice s1 m1 d1,.slice s2 m2 d2] 25))
 have Kh:=hid (heap_alloc_new w (.cells #[.int .i64 xg,.int .i64 x.flushed,.int .i64 x.next,.int .i64 x.low,.int .i64 x.clock,.slice s1 m1 d1,.slice s2 m2 d2] 25))
 have hp12:¬(9223372036854775807<pre.size+12):=by omega
 have hp8:¬(9223372036854775807<pre.size+8):=by omega
 clear hO hr hl hvk hm1 hm2 hxg hrp
 go_enter Tryz.func162,Tryz.ntmps162
 go_upto_region 1 with fail
 obtain ⟨p5,hp5⟩:∃p,p=w.heap.size:=⟨_,rfl⟩
 rw [←hp5] at Kh⊢
 have Zb:=hid (show ¬r.own p5 from fun e=>by have:=Ky.out.ins.lt e;omega)
 generalize w.alloc (.cells #[.int .i64 xg,.int .i64 x.flushed,.int .i64 x.next,.int .i64 x.low,.int .i64 x.clock,.slice s1 m1 d1,.slice s2 m2 d2] 25)=W1 at Kg Kh⊢
 clear hp5
 have Kp:=hid (RGo.of_upd Ky.out Kg.out)
 have HA:=hid (Kp.out.ra.refused pre hp)
 rw [←Kc.out] at HA
 obtain ⟨e0,he0⟩:∃e,e=askedP a pre:=⟨_,rfl⟩
 rw [←he0] at HA Kf
 have Zi:=hid he0.symm
 clear he0
 go_wp2_with fail
 refine HA.out.mono ?_
 rintro e W ⟨rfl,hww⟩
 obtain rfl:=hww.symm
 by_cases hz:e0=0
 case neg=>
  have HD:=hid (show O=(e0,a) from by rw [Kf.out,if_pos hz])
  have hnb:(e0 != 0)=true:=by simpa using hz
  go_wp2
  go_ret
  rw [HD.out]
  exact ⟨rfl,r,Kp.out⟩
 subst hz
 have hO:=Kf.out
 rw [if_neg (by decide)] at hO
 have Kq:=hid hO
 clear hO
 have Kr:=hid (refCheck10_any (Za.out.keep Kg.out) HL.out)
 obtain ⟨⟨z0,z1,z2,z3,z4,z5,z6⟩,-,hzl⟩:=verCells Kh.out
 obtain ⟨ck,hck⟩:∃c,c=checkA x:=⟨_,rfl⟩
 have hcc:=checkA_of x
 rw [←hck] at Kr hcc
 have Ks:=hid hcc
 clear hck hcc
 go_wp2_with fail
 refine Kr.out.mono ?_
 rintro e W2 ⟨rfl,hu2⟩
 have Kt:=hid (Kp.out.quiet hu2);have Zc:=hid (hu2.get Kh.out (fun e=>e));have Zs:=hid (Kg.out.trans hu2 (fun _ _ e=>e))
 clear hu2 z0 z1 z2 z3 z4 z5 z6 hzl Kr
 by_cases hck:ck=0
 case neg=>
  have hok:okA x=false:=Ks.out.elim (fun h=>absurd h.1 hck) (·.2)
  have hc1:ck=101:=Ks.out.elim (fun h=>absurd h.1 hck) (·.1)
  have HD:=hid (show O=(101,a) from by rw [Kq.out,if_pos hok])
  subst hc1
  go_wp2
  go_ret
  rw [HD.out]
  exact ⟨rfl,r,Kt.out⟩
 have hok:okA x=true:=Ks.out.elim (·.2) (fun h=>absurd hck (by rw [h.1];decide))
 subst hck
 have hO:=Kq.out
 rw [if_neg (by rw [hok];decide)] at hO
 have Ki:=hid hO;have Zd:=hid hok
 have Zq:=hid (show 1≤xg∧xg≤1099511627776 from by rw [Ko.out];exact okA_gen hok)
 clear hO hok
 have Ku:=hid (refLoad10_any Kt.out.ra pre hp)
 rw [←Kc.out] at Ku
 go_wp2_with fail
 refine Ku.out.mono ?_
 rintro e W3 ⟨hres,r3,hg3⟩
 obtain ⟨g0,y2,y3,y4,y5,a1,n1,c1,a2,n2,c2,isb,rfl,hg0,hg1,hg2⟩:=hres.shape
 have Zj:=hid hg0
 obtain ⟨a3,ha3⟩:∃b,b=(loadP a pre).2:=⟨_,rfl⟩
 have hlt:=look_there (pre:=pre) Zi.out
 rw [←ha3] at hlt
 have Kd:=hid hlt
 clear hlt
 obtain ⟨e1,he1⟩:∃e,e=(loadP a pre).1.2:=⟨_,rfl⟩
 rw [←he1,←hg0,←ha3] at Ki
 rw [←he1]
 rw [←ha3] at hg3
 have Ze:=hid (Kt.out.trans hg3);have Zk:=hid (hg3.st.upd.get Zc.out Zb.out);have Zr:=hid (hg3.out (lt_of_heap Zc.out) Zb.out)
 have Zl:=hid (show VerAt W3 (.agg #[.int .i64 xg,.int .i64 x.flushed,.int .i64 x.next,.int .i64 x.low,.int .i64 x.clock,.slice s1 m1 d1,.slice s2 m2 d2]) x from Kz.out W3 Ze.out.st.upd)
 clear hres hg3 hg0 ha3 he1 Ku
 go_upto_region 8 with fail
 have Kj:=hid ((Upd.refl (fun _=>False) W3).alloc (.cells #[.int .i64 g0,.int .i64 y2,.int .i64 y3,.int .i64 y4,.int .i64 y5,.slice a1 n1 c1,.slice a2 n2 c2] 25))
 have Kv:=hid (heap_alloc_new W3 (.cells #[.int .i64 g0,.int .i64 y2,.int .i64 y3,.int .i64 y4,.int .i64 y5,.slice a1 n1 c1,.slice a2 n2 c2] 25))
 obtain ⟨p8,hp8⟩:∃b,b=W3.heap.size:=⟨_,rfl⟩
 rw [←hp8] at Kv⊢
 clear hp8
 generalize W3.alloc (.cells #[.int .i64 g0,.int .i64 y2,.int .i64 y3,.int .i64 y4,.int .i64 y5,.slice a1 n1 c1,.slice a2 n2 c2] 25)=W4 at Kj Kv⊢
 have Kk:=hid (Ze.out.quiet Kj.out);have Zm:=hid (Kj.out.get Zk.out (fun e=>e))
 by_cases hz:e1=0
 case neg=>
  have HD:=hid (show O=(e1,a3) from by rw [Ki.out,if_pos hz])
  have hnb:(e1 != 0)=true:=by simpa using hz
  clear hz
  go_wp2
  go_ret
  rw [HD.out]
  exact ⟨rfl,r3,Kk.out⟩
 subst hz
 have hO:=Ki.out
 rw [if_neg (by decide)] at hO
 have Kl:=hid hO
 clear hO
 obtain ⟨⟨q0,q1,q2,q3,q4,q5,q6⟩,-,hql⟩:=verCells Zm.out
 obtain ⟨⟨z0,z1,z2,z3,z4,z5,z6⟩,-,hzl⟩:=verCells Kv.out
 clear z1 z2 z3 z4 z5 z6
 by_cases hgn:xg=g0+1
 case neg=>
  have HD:=hid (show O=(102,a3) from by rw [Kl.out,if_pos (by rw [←Ko.out];exact hgn)])
  have hnb:(xg != g0+1)=true:=by simpa using hgn
  clear hgn
  go_wp2
  go_ret
  rw [HD.out]
  exact ⟨rfl,r3,Kk.out⟩
 have Kw:=hid (refEncode_any (Zl.out.keep Kj.out) Zd.out)
 obtain ⟨bytes,hbytes⟩:∃b,b=encodeB x:=⟨_,rfl⟩
 rw [←hbytes] at Kw Kl
 have Zf:=hid (show bytes.length≤1000000000 from by rw [hbytes];exact encodeB_small Zd.out)
 have hO:=Kl.out
 rw [if_neg (by rw [←Ko.out];exact fun e=>e hgn),stroke_d] at hO
 have Km:=hid hO
 have hnb:(xg != g0+1)=false:=by simpa using hgn
 clear hgn hO hbytes Kf Kq Ki Kl Zj
 go_wp2_with fail
 refine Kw.out.mono ?_
 rintro e W5 ⟨v',rfl,hn5⟩
 have Ke:Hid (SwJ w W5 r r3 a3 v' bytes):=hid ⟨Kk.out.quiet hn5.upd,hn5.data,fun k e hk=>by have h1:=hn5.new k e;have h2:=Kk.out.st.ins.lt hk;omega⟩
 obtain ⟨va,vc,rfl,hvc1,hvc2⟩:=hn5.shape
 obtain ⟨nb,hnb2⟩:∃n,n=bytes.length:=⟨_,rfl⟩
 rw [←hnb2] at Ke⊢
 clear hn5 hnb2 q0 q1 q2 q3 q4 q5 q6 hql z0 hzl Kw
 obtain ⟨tmp,htmp⟩:∃t,t=pre++tempB:=⟨_,rfl⟩
 obtain ⟨nm,hnm⟩:∃t,t=pre++nameB:=⟨_,rfl⟩
 rw [←htmp,←hnm] at Km
 rw [←htmp] at Kd
 have Zg:=hid htmp;have Zn:=hid hnm
 clear htmp hnm
 have hth:=refThere10_any Ke.out.go.ra tmp
 rw [Ke.out.go.st.p,←Kc.out] at hth
 obtain ⟨B,hB⟩:∃B,B=(findP a3.files tmp).isSome:=⟨_,rfl⟩
 rw [←hB] at hth Kd
 have Zh:=hid hth
 have hp12':¬(9223372036854775807<pre.size+12):=hp12
 have Zo:=hid (show pre++tempB=tmp from Zg.out.symm)
 have Kn:=hid (show pre++nameB=nm from Zn.out.symm)
 clear hth hB
 go_upto_region 14 with fail
 rw [Zo.out]
 go_upto_if 49 with (go_at_call 180;refine Zh.out.mono ?_;rintro e W ⟨rfl,hu⟩)
 have HJ:=hid (Ke.out.quiet hu)
 clear hu
 go_cut [7] (fun ev wx=>∃(d:Int×DiskA) (rk:RS),ev=.int .i64 d.1∧SwJ w wx r rk d.2 (.slice va nb vc) bytes∧O=strokeD d tmp nm bytes)
 case first=>
  cases B with
  | false=>
   have hno:¬lookP a3 tmp true=0:=fun e=>Bool.noConfusion (Kd.out.1 e)
   have Kx:=hid (show O=strokeD (0,a3) tmp nm bytes from by rw [Km.out,if_neg hno])
   go_wp2
   go_meet
   exact ⟨(0,a3),r3,rfl,HJ.out,Kx.out⟩
  | true=>
   have Kx:=hid (show O=strokeD (deleteP a3 tmp) tmp nm bytes from by rw [Km.out,if_pos (Kd.out.2 rfl)])
   have HX:=hid (HJ.out.go.ra.delete tmp)
   rw [HJ.out.go.st.p,←Kc.out] at HX
   go_wp2_with fail
   refine HX.out.mono ?_
   rintro e W6 ⟨rfl,r6,hg6⟩
   have Kb:=hid (HJ.out.act hg6)
   clear hg6
   go_wp2
   go_meet
   exact ⟨deleteP a3 tmp,r6,rfl,Kb.out,Kx.out⟩
 case rest=>
  clear HJ
  obtain ⟨d,rk,rfl,hj,ho⟩:=hcut
  have HJ:=hid hj;have HO:=hid ho
  obtain ⟨de,da⟩:=d
  simp only at HJ HO
  obtain ⟨wb,hwb⟩:∃q,q=wc:=⟨_,rfl⟩
  rw [←hwb] at HJ⊢
  clear hj ho hwb Zh Kd Km Ke
  simp only
  go_upto_if 54 with fail
  go_cut [7] (fun ev wx=>∃(d:Int×DiskA) (rk:RS),ev=.int .i64 d.1∧SwJ w wx r rk d.2 (.slice va nb vc) bytes∧O=strokeC d tmp nm bytes)
  case first=>
   by_cases hde:de=0
   ·subst hde
    have Ka:=hid (show O=strokeC (createP da tmp) tmp nm bytes from by rw [HO.out];exact if_neg (fun e=>e rfl))
    have HX:=hid (HJ.out.go.ra.create tmp)
    rw [HJ.out.go.st.p,←Kc.out] at HX
    go_wp2_with fail
    refine HX.out.mono ?_
    rintro e W6 ⟨rfl,r6,hg6⟩
    have Kb:=hid (HJ.out.act hg6)
    clear hg6
    go_wp2
    go_meet
    exact ⟨createP da tmp,r6,rfl,Kb.out,Ka.out⟩
   ·have hne:(de==0)=false:=by simpa using hde
    have Ka:=hid (show O=strokeC (de,da) tmp nm bytes from by rw [HO.out];unfold strokeD strokeC;rw [if_pos hde,if_pos hde])
    clear hde
    go_wp2
    go_meet
    exact ⟨(de,da),rk,rfl,HJ.out,Ka.out⟩
  case rest=>
   clear HJ HO
   obtain ⟨d,rk,rfl,hj,ho⟩:=hcut
   have HJ:=hid hj;have HO:=hid ho
   obtain ⟨de,da⟩:=d
   simp only at HJ HO
   obtain ⟨wb,hwb⟩:∃q,q=wc:=⟨_,rfl⟩
   rw [←hwb] at HJ⊢
   clear hj ho hwb
   simp only
   by_cases hfull:de=0∧(appendP da tmp bytes).1=4
   ·obtain ⟨rfl,hf4⟩:=hfull
    have Ka:=hid (show O=(4,(deleteP (appendP da tmp bytes).2 tmp).2) from by rw [HO.out];unfold strokeC strokeA;rw [if_neg (fun e=>e rfl),if_pos hf4])
    have HX:=hid (HJ.out.go.ra.append tmp HJ.out.data.bytes (fun a l c e _=>⟨HJ.out.out _ (by rw [e];rfl),HJ.out.data.lt _ (by rw [e];rfl)⟩) Zf.out)
    rw [HJ.out.go.st.p,←Kc.out,hf4] at HX
    go_wp2_with fail
    refine HX.out.mono ?_
    rintro e W6 ⟨rfl,r6,hg6⟩
    have Kb:=hid (HJ.out.act hg6)
    clear hg6
    have HY:=hid (Kb.out.go.ra.delete tmp)
    rw [Kb.out.go.st.p,←Kc.out] at HY
    go_wp2_with fail
    refine HY.out.mono ?_
    rintro e W7 ⟨rfl,r7,hg7⟩
    have Zp:=hid (Kb.out.act hg7)
    clear hg7
    go_wp2
    go_ret
    rw [Ka.out]
    exact ⟨rfl,r7,Zp.out.go⟩
   ·go_upto_if 59 with fail
    go_cut [7] (fun ev wx=>∃(d:Int×DiskA) (rk:RS),ev=.int .i64 d.1∧SwJ w wx r rk d.2 (.slice va nb vc) bytes∧O=strokeB d tmp nm)
    case first=>
     by_cases hde:de=0
     ·subst hde
      obtain ⟨q,hq⟩:∃q,q=appendP da tmp bytes:=⟨_,rfl⟩
      have hq4:¬q.1=4:=fun e=>hfull ⟨rfl,by rw [←hq];exact e⟩
      have Ka:=hid (show O=strokeB q tmp nm from by rw [HO.out];unfold strokeC strokeA strokeB;rw [if_neg (fun e=>e rfl),←hq,if_neg hq4])
      have HX:=hid (HJ.out.go.ra.append tmp HJ.out.data.bytes (fun a l c e _=>⟨HJ.out.out _ (by rw [e];rfl),HJ.out.data.lt _ (by rw [e];rfl)⟩) Zf.out)
      rw [HJ.out.go.st.p,←Kc.out,←hq] at HX
      obtain ⟨qe,qa⟩:=q
      simp only at HX Ka hq4
      have hne:(qe==4)=false:=by simpa using hq4
      clear hq hfull hq4
      go_wp2_with fail
      refine HX.out.mono ?_
      rintro e W6 ⟨rfl,r6,hg6⟩
      have Kb:=hid (HJ.out.act hg6)
      clear hg6
      go_wp2
      go_meet
      exact ⟨(qe,qa),r6,rfl,Kb.out,Ka.out⟩
     ·have hne:(de==0)=false:=by simpa using hde
      have Ka:=hid (show O=strokeB (de,da) tmp nm from by rw [HO.out];unfold strokeC strokeB;rw [if_pos hde,if_pos hde])
      clear hde hfull
      go_wp2
      go_meet
      exact ⟨(de,da),rk,rfl,HJ.out,Ka.out⟩
    case rest=>
     clear HJ HO hfull
     obtain ⟨d,rk,rfl,hj,ho⟩:=hcut
     have HJ:=hid hj;have HO:=hid ho
     obtain ⟨de,da⟩:=d
     simp only at HJ HO
     obtain ⟨wb,hwb⟩:∃q,q=wc:=⟨_,rfl⟩
     rw [←hwb] at HJ⊢
     clear hj ho hwb
     simp only
     go_upto_if 70 with fail
     go_cut [7] (fun ev wx=>∃(d:Int×DiskA) (rk:RS),ev=.int .i64 d.1∧SwJ w wx r rk d.2 (.slice va nb vc) bytes∧O=strokeS d tmp nm)
     case first=>
      by_cases hde:de=0
      ·subst hde
       have Ka:=hid (show O=strokeS (syncP da tmp) tmp nm from by rw [HO.out];exact if_neg (fun e=>e rfl))
       have HX:=hid (HJ.out.go.ra.sync tmp)
       rw [HJ.out.go.st.p,←Kc.out] at HX
       go_wp2_with fail
       refine HX.out.mono ?_
       rintro e W6 ⟨rfl,r6,hg6⟩
       have Kb:=hid (HJ.out.act hg6)
       clear hg6
       go_wp2
       go_meet
       exact ⟨syncP da tmp,r6,rfl,Kb.out,Ka.out⟩
      ·have hne:(de==0)=false:=by simpa using hde
       have Ka:=hid (show O=strokeS (de,da) tmp nm from by rw [HO.out];unfold strokeB strokeS;rw [if_pos hde,if_pos hde])
       clear hde
       go_wp2
       go_meet
       exact ⟨(de,da),rk,rfl,HJ.out,Ka.out⟩
     case rest=>
      clear HJ HO
      obtain ⟨d,rk,rfl,hj,ho⟩:=hcut
      have HJ:=hid hj;have HO:=hid ho
      obtain ⟨de,da⟩:=d
      simp only at HJ HO
      obtain ⟨wb,hwb⟩:∃q,q=wc:=⟨_,rfl⟩
      rw [←hwb] at HJ⊢
      clear hj ho hwb
      simp only
      by_cases hde:de=0
      ·subst hde
       have Ka:=hid (show O=renameP da tmp nm from by rw [HO.out];exact if_neg (fun e=>e rfl))
       have HX:=hid (HJ.out.go.ra.rename tmp nm)
       rw [HJ.out.go.st.p,←Kc.out,←Kn.out] at HX
       go_wp2_with fail
       refine HX.out.mono ?_
       rintro e W6 ⟨rfl,r6,hg6⟩
       rw [Kn.out] at hg6⊢
       have Kb:=hid (HJ.out.act hg6)
       clear hg6
       go_wp2
       go_ret
       rw [Ka.out]
       exact ⟨rfl,r6,Kb.out.go⟩
      ·have hne:(de==0)=false:=by simpa using hde
       have Ka:=hid (show O=(de,da) from by rw [HO.out];exact if_pos hde)
       clear hde
       go_wp2
       go_ret
       rw [Ka.out]
       exact ⟨rfl,rk,HJ.out.go⟩
end Go.Proofs.YtgaidmohdhaonaaGreatDoor
