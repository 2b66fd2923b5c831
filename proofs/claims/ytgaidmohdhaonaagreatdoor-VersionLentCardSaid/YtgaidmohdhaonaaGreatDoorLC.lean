/-
  Package stratalaw4's Names, walked: markOf, alone, Keep. (Keep was printed by gen_lentf.py.)
  Package stratalaw4's Names, walked: Settle.
-/
import Derived.Test.YtgaidmohdhaonaaGreatDoorLA
import Derived.StillTailTactics
set_option linter.unusedVariables false
set_option linter.unusedSimpArgs false
set_option linter.unnecessarySimpa false
set_option linter.unusedSectionVars false
set_option maxRecDepth 100000
set_option maxHeartbeats 6400000
namespace Go.Proofs.YtgaidmohdhaonaaGreatDoor
open Go Go.RowKit
def markBs (i:Nat):List UInt8:=[UInt8.ofNat (97+i%26),UInt8.ofNat (97+i / 26%26),UInt8.ofNat (97+i / 676%26),33]
def markS (i:Nat):ByteArray:=toBA (markBs i)
def MN (i:Nat):List Value:=[.string (markS i)]
theorem markOf_any (i:Nat) (hi:i≤1000000000) (w:World):Calls Tryz.prog 109 #[.int .i64 i] w fun e w'=>e=.returned (.string (markS i))∧Upd (fun _=>False) w w':=by
 have hnew:=bytes_newB w (markBs i)
 have hrun:=run_string_ofD hnew
 have e0:97+(i:Int)%26=(((UInt8.ofNat (97+i%26)).toNat:Nat):Int):=by rw [UInt8.toNat_ofNat'];omega
 have e1:97+(i:Int) / 26%26=(((UInt8.ofNat (97+i / 26%26)).toNat:Nat):Int):=by rw [UInt8.toNat_ofNat'];omega
 have e2:97+(i:Int) / 676%26=(((UInt8.ofNat (97+i / 676%26)).toNat:Nat):Int):=by rw [UInt8.toNat_ofNat'];omega
 unfold markS
 unfold markBs at hrun⊢
 generalize UInt8.ofNat (97+i%26)=b0 at e0 hrun⊢
 generalize UInt8.ofNat (97+i / 26%26)=b1 at e1 hrun⊢
 generalize UInt8.ofNat (97+i / 676%26)=b2 at e2 hrun⊢
 have hrun':(convert 22 9 (.slice (some ⟨w.heap.size,0,none⟩) 4 4)).run Tryz.prog (w.alloc (.cells #[.int .u8 (b0.toNat:Int),.int .u8 (b1.toNat:Int),.int .u8 (b2.toNat:Int),.int .u8 33] 5))=.ok (.string (toBA [b0,b1,b2,33])) (w.alloc (.cells #[.int .u8 (b0.toNat:Int),.int .u8 (b1.toNat:Int),.int .u8 (b2.toNat:Int),.int .u8 33] 5)):=hrun
 clear hrun hnew
 go_enter Tryz.func109,Tryz.ntmps109
 go_wp2
 go_ret
 exact ⟨rfl,(Upd.refl _ _).alloc _⟩
theorem alone_any {w:World} {v:Value} {m:ByteArray} (h:FullG w v [.string m]) :
  Calls Tryz.prog 110 #[v,.string m] w fun e w'=>e=.returned (.bool true)∧Upd (fun _=>False) w w':=by
 obtain ⟨ao,n,c,rfl,hnc,hc,hf⟩:=h
 have HF:=hid hf
 clear hf
 go_enter Tryz.func110,Tryz.ntmps110
 go_wp2
 go_loopw [5] (fun i wr=>∃k:Nat,k≤n∧i=.int .i64 k∧Drawn w wr) (fun i _=>n-(intOf i).toNat)
 case atStart=>exact ⟨0,Nat.zero_le _,rfl,⟨Upd.refl _ _,rfl⟩⟩
 case round=>
  obtain ⟨k,hk,rfl,hdr⟩:=hrel
  have Ka:=hid hdr
  by_cases hlt:k<n
  ·obtain ⟨g,o,rfl,hg,hcell⟩:=HF.out k hlt
   have d0:=hcell 0 (by simp)
   have d:wr.cell? ⟨g,o+k,none⟩=some (.string m):=by rw [hdr.cell];simpa using d0
   have hgr:g<wr.heap.size:=by rw [hdr.2];exact hg
   clear hdr hcell d0
   go_wp2
   go_roundw
   case rel=>exact ⟨k+1,by omega,by go_num,Ka.out⟩
   case measure=>simp [intOf];omega
  ·obtain rfl:k=n:=by omega
   clear hdr
   go_wp2
   go_ret
   exact ⟨rfl,Ka.out.1⟩
theorem sameNamesS_any {w:World} {n:Nat} {v1 v2:Value} {l:List ByteArray} (h1:SRow w 9 1 v1 n (l.map Value.string)) (h2:SRow w 9 1 v2 n (l.map Value.string)) :
  Calls Tryz.prog 108 #[v1,v2] w fun e w'=>e=.returned (.bool true)∧Upd (fun _=>False) w w':=by
 obtain ⟨a1,c1,rfl,hn1,hc1,-⟩:=h1.slice
 obtain ⟨a2,c2,rfl,hn2,hc2,-⟩:=h2.slice
 have hl:l.length=n:=by have:=h1.1;simpa using this
 have HC:=hid (show ∀k,k<n→∃g1 g2 x,a1=some ⟨g1,0,none⟩∧a2=some ⟨g2,0,none⟩∧g1<w.heap.size∧g2<w.heap.size∧w.cell? ⟨g1,k,none⟩=some (.string x)∧w.cell? ⟨g2,k,none⟩=some (.string x) from fun k hk=>by
  obtain ⟨g1,_,e1,q1,q2⟩:=h1.cell (k:=k) (u:=.string (l[k]'(by omega))) (by simp)
  obtain ⟨g2,_,e2,r1,r2⟩:=h2.cell (k:=k) (u:=.string (l[k]'(by omega))) (by simp)
  injection e1 with e1
  injection e2 with e2
  exact ⟨g1,g2,_,e1,e2,q1,r1,q2,r2⟩)
 clear h1 h2 hl
 go_enter Tryz.func108,Tryz.ntmps108
 go_wp2
 go_loopw [5] (fun i wr=>∃k:Nat,k≤n∧i=.int .i64 k∧Drawn w wr) (fun i _=>n-(intOf i).toNat)
 case atStart=>exact ⟨0,Nat.zero_le _,rfl,⟨Upd.refl _ _,rfl⟩⟩
 case round=>
  obtain ⟨k,hk,rfl,hdr⟩:=hrel
  have Ka:=hid hdr
  by_cases hlt:k<n
  ·obtain ⟨g1,g2,x,rfl,rfl,hg1,hg2,d1,d2⟩:=HC.out k hlt
   have q1:wr.cell? ⟨g1,k,none⟩=some (.string x):=(hdr.cell _).trans d1
   have q2:wr.cell? ⟨g2,k,none⟩=some (.string x):=(hdr.cell _).trans d2
   clear hdr d1 d2
   go_wp2_with fail
   go_quiet (fail)
   go_wp2
   go_roundw
   case rel=>exact ⟨k+1,by omega,by go_num,Ka.out.drewN _⟩
   case measure=>simp [intOf];omega
  ·obtain rfl:k=n:=by omega
   clear hdr
   go_wp2
   go_ret
   exact ⟨rfl,Ka.out.1⟩
def KP.N (w:World) (k:KP):Prop:=k.In 101 73 9 1 w
def KStepN (w w':World) (k k':KP) (v:Value) (n:Nat) (xs:List Value):Prop:=KStep 101 73 9 1 w w' k k' v n xs∧∃u,k'.ls=k.ls ++ [⟨v,u,n,xs,xs⟩]
theorem keepN_any {w:World} {k:KP} {v:Value} {l:List ByteArray} (hk:k.N w) (hv:SRow w 9 1 v l.length (l.map Value.string)) (hvo:∀q,v.ownBlock=some q→¬k.own q) (hn:l.length≤1000000000) (hN:k.ls.length≤1000000) :
  Calls Tryz.prog 104 #[.pointer (some ⟨k.p,0,none⟩),v] w fun e w'=>e=.returned (.tuple #[])∧∃k',KStepN w w' k k' v l.length (l.map Value.string):=by
 have h1:∀u∈l.map Value.string,u.oneCell'=true:=by intro u hu;obtain ⟨b,_,rfl⟩:=List.mem_map.1 hu;rfl
 have hvr:=hv
 obtain ⟨u,w1,hrun1,r1,u1,o1⟩:=rowStrs.join (w:=w) (SRow.nil w 9 1) hvr h1 (by omega) 73
 rw [List.nil_append] at r1
 have u1f:Upd (fun _=>False) w w1:=u1.mono (fun q _ e=>by cases e)
 have o1f:∀q,u.ownBlock=some q→w.heap.size≤q:=fun q e=>(o1 q e).resolve_left (fun e=>by cases e)
 have hk1:k.N w1:=hk.upd u1f (fun _ _ e=>e)
 obtain ⟨lv',w2,hrun2,r2,u2,o2,-⟩:=rowStrss.push (w:=w1) (M:=[v]) hk1.rowL rfl (fun x hx=>by simp at hx;subst hx;exact SRow.one hvr) (by omega) 99
 have hp:=lt_of_heap hk.top
 have pl:¬k.lv.ownBlock=some k.p:=fun e=>by have:=hk.one KP.oP (KP.oL e);omega
 have pw:¬k.wv.ownBlock=some k.p:=fun e=>by have:=hk.one KP.oP (KP.oW e);omega
 have lw:∀q,k.wv.ownBlock=some q→¬k.lv.ownBlock=some q:=fun q e1 e2=>by have:=hk.one (KP.oL e2) (KP.oW e1);omega
 have t2:=u2.get hk1.top pl
 have t3:=heap_setCell_at w2 k.p 0 _ _ lv' t2
 have w3r:SRow (w2.setCell ⟨k.p,0,none⟩ lv') 73 1 k.wv k.ls.length (k.ls.map KL.u):=SRow.upd (SRow.upd hk1.rowW u2 (fun q e=>lw q e)) (Upd.cell_only w2 k.p 0 lv') (fun q e e2=>pw (e2 ▸ e))
 have hu3:SRow (w2.setCell ⟨k.p,0,none⟩ lv') 9 1 u (0+l.length) (l.map Value.string):=SRow.upd (SRow.upd r1 u2 (fun q e e2=>by have h1:=o1f q e;have:=hk.lt ⟨_,KP.oL e2⟩;omega)) (Upd.cell_only w2 k.p 0 lv') (fun q e e2=>by have h1:=o1f q e;omega)
 obtain ⟨wv',w4,hrun4,r4,u4,o4,-⟩:=rowStrss.push (w:=w2.setCell ⟨k.p,0,none⟩ lv') (M:=[u]) w3r rfl (fun x hx=>by simp at hx;subst hx;exact SRow.one r1) (by omega) 99
 rw [Nat.zero_add] at hu3
 have hfin:=hk.kept hvr hvo hn u1f r2 u2 o2 (Upd.refl _ _) hu3 (fun q e=>⟨o1f q e,fun e2=>by
  have h5:=(r1.lt q e)
  rcases o2 q e2 with e3|e3
  ·have h4:=o1f q e;have:=hk.lt ⟨_,KP.oL e3⟩;omega
  ·omega⟩) r4 u4 o4
 have t4:=u4.get t3 pw
 obtain ⟨va,vc,hvs,-,-,-⟩:=SRow.slice hvr
 obtain ⟨ua,uc,hus,-,-,-⟩:=SRow.slice r1
 rw [Nat.zero_add] at hus
 obtain ⟨la,lc,hls,hl1,hl2,-⟩:=SRow.slice hk.rowL
 obtain ⟨wa,wc,hws,hw1,hw2,-⟩:=SRow.slice hk.rowW
 obtain ⟨la2,lc2,hls2,-,-,-⟩:=SRow.slice r2
 obtain ⟨wa2,wc2,hws2,-,-,-⟩:=SRow.slice r4
 obtain ⟨N,hNN⟩:∃N,N=k.ls.length:=⟨_,rfl⟩
 obtain ⟨n,hnn⟩:∃n,n=l.length:=⟨_,rfl⟩
 rw [←hNN] at hls hws hls2 hws2 hl1 hw1 hN
 rw [←hnn] at hvs hus hn hfin
 obtain ⟨N2,hN2⟩:∃N2,N2=N+1:=⟨_,rfl⟩
 rw [←hN2] at hls2 hws2
 obtain ⟨p,hpp⟩:∃p,p=k.p:=⟨_,rfl⟩
 have c0:w1.cell? ⟨p,0,none⟩=some (.slice la N lc):=by rw [hpp,cell_of_row w1 _ 0 _ _ _ hk1.top,←hls];rfl
 have c1:(w2.setCell ⟨k.p,0,none⟩ lv').cell? ⟨p,1,none⟩=some (.slice wa N wc):=by rw [hpp,cell_of_row _ _ 1 _ _ _ t3,←hws];rfl
 have f0:w2.frozen? ⟨p,0,none⟩=false:=by rw [hpp];exact frozen_of_row _ _ _ _ _ t2
 have f1:w4.frozen? ⟨p,1,none⟩=false:=by rw [hpp];exact frozen_of_row _ _ _ _ _ t4
 have d0:w2.cell? ⟨p,0,none⟩=some (.slice la N lc):=by rw [hpp,cell_of_row _ _ 0 _ _ _ t2,←hls];rfl
 have d1:w4.cell? ⟨p,1,none⟩=some (.slice wa N wc):=by rw [hpp,cell_of_row _ _ 1 _ _ _ t4,←hws];rfl
 have hp1:p<w1.heap.size:=by rw [hpp];exact lt_of_heap hk1.top
 have hp2:p<w2.heap.size:=by rw [hpp];exact lt_of_heap t2
 have hp4:p<w4.heap.size:=by rw [hpp];exact lt_of_heap t4
 rw [←hpp] at hrun4 hfin c1⊢
 rw [hvs] at hrun1 hrun2 hfin⊢
 rw [hus] at hrun1 hrun4
 rw [hls] at hrun2
 rw [hls2] at hrun2 hrun4 hfin c1
 rw [hws] at hrun4
 rw [hws2] at hrun4 hfin
 obtain ⟨w3,hw3⟩:∃w3,w3=w2.setCell ⟨p,0,none⟩ (.slice la2 N2 lc2):=⟨_,rfl⟩
 rw [←hw3] at hrun4 c1
 have hp3:p<w3.heap.size:=by rw [hw3];simpa using hp2
 have hrun2':(Builtin.append_ #[99,99] 99 #[.slice la N lc,.slice (some ⟨w1.heap.size,0,none⟩) 1 1]).run Tryz.prog (w1.alloc (.cells #[.slice va n vc] 73))=.ok (.slice la2 N2 lc2) w2:=hrun2
 have hrun4':(Builtin.append_ #[99,99] 99 #[.slice wa N wc,.slice (some ⟨w3.heap.size,0,none⟩) 1 1]).run Tryz.prog (w3.alloc (.cells #[.slice ua n uc] 73))=.ok (.slice wa2 N2 wc2) w4:=hrun4
 have Kb:=hid hrun1;have Kc:=hid hrun2';have Kd:=hid hrun4';have Ke:=hid hw3;have Ka:=hid hfin;have Kf:=hid hnn
 clear hrun1 hrun2 hrun2' hrun4 hrun4' hfin hw3 hk hv hvo hn hN h1 hvr r1 u1 o1 u1f o1f hk1 r2 u2 o2 pl pw lw t2 t3 w3r hu3 r4 u4 o4 t4 hvs hus hls hws hls2 hws2 hNN hnn hN2 hpp hp
 go_enter Tryz.func104,Tryz.ntmps104
 go_upto_region 2 with (at_builtin;refine wpList_append_run rfl _ _ _ rfl rfl rfl Kb.out ?_)
 go_upto_region 3 with (at_builtin;refine wpList_append_run rfl _ _ _ rfl rfl rfl Kc.out ?_)
 rw [←Ke.out]
 go_wp2_with (at_builtin;refine wpList_append_run rfl _ _ _ rfl rfl rfl Kd.out ?_)
 go_end0
 rw [←Kf.out]
 exact ⟨rfl,_,Ka.out,_,rfl⟩
theorem settleN_any {w : World} {k : KP} (hk : k.N w) (heq : ∀ x ∈ k.ls, ∃ l : List ByteArray, x.xs = l.map Value.string ∧ x.ys = l.map Value.string) (hN : k.ls.length ≤ 1000000) :
    Calls Tryz.prog 49 #[.pointer (some ⟨k.p,0,none⟩)] w fun e w'=>e=.returned (.bool true)∧Upd k.own w w':=by
  obtain ⟨ga,la,lc,hlv,hl1,hl2,hla,hat⟩:=hk.rowAt
  obtain ⟨wa,wc,hws,hw1,hw2,-⟩:=SRow.slice hk.rowW
  have HK:=hid hk;have Kh:=hid hla;have Kv:=hid hlv;have Kw:=hid heq;have Km:=hid hws
  have Kq:=hid hk.short
  obtain ⟨N,hNN⟩:∃N,N=k.ls.length:=⟨_,rfl⟩
  have HN:=hid hNN
  have Kg:=hid (show ∀(S:Nat→Prop) wr,Upd S w wr→(∀q,q<w.heap.size→S q→k.vown q)→wr.cell? ⟨k.p,0,none⟩=some (.slice la N lc)∧k.p<wr.heap.size∧∀j (hj:j<k.ls.length),ga<wr.heap.size∧wr.cell? ⟨ga,j,none⟩=some k.ls[j].v from fun S wr hu hS=>by rw [hNN];exact hat S wr hu hS)
  rw [←hNN] at hl1 hN Kh hw1 Km
  have Kx:=hid (show ∀V,Upd (fun _=>False) w V→V.cell? ⟨k.p,1,none⟩=some (.slice wa N wc) from fun V hV=>by rw [cell_of_row V _ 1 _ _ _ ((HK.out.upd hV (fun _ _ e=>e)).top),←Km.out];rfl)
  clear hk hat hla heq hlv hNN hws
  go_enter Tryz.func49,Tryz.ntmps49
  go_wp2
  go_loopw [3] (fun i wr=>∃j:Nat,j≤N∧i=.int .i64 j∧Upd (fun _=>False) w wr) (fun i _=>N-(intOf i).toNat)
  case atStart=>exact ⟨0,Nat.zero_le _,rfl,Upd.refl _ _⟩
  case round=>
    obtain ⟨j,hj,rfl,hup⟩:=hrel
    have Kd:=hid hup
    obtain ⟨c0,hp,hcell⟩:=Kg.out _ _ hup (fun _ _ e=>e.elim)
    have c1:=Kx.out _ hup
    by_cases hlt:j<N
    · have hlt':j<k.ls.length:=by have:=HN.out;omega
      obtain rfl:=Kh.out (by omega)
      obtain ⟨hg,d0⟩:=hcell j hlt'
      obtain ⟨l,e1,e2⟩:=Kw.out k.ls[j] (List.getElem_mem hlt')
      have hkr:=HK.out.upd hup (fun _ _ e=>e)
      obtain ⟨gw,cw,ew,hgw,d1⟩:=SRow.cell hkr.rowW (k:=j) (u:=k.ls[j].u) (by simp [hlt'])
      rw [Km.out] at ew
      injection ew with ew1 _ ew3
      subst ew1 ew3
      have hr1:=hkr.vs j hlt'
      have hr2:=hkr.us j hlt'
      rw [e1] at hr1
      rw [e2] at hr2
      obtain ⟨va,vc,hvs,hv1,hv2,-⟩:=SRow.slice hr1
      obtain ⟨ua,uc,hus,hu1,hu2,-⟩:=SRow.slice hr2
      rw [hvs] at d0 hr1
      rw [hus] at d1 hr2
      obtain ⟨n,hn⟩:∃n,n=k.ls[j].n:=⟨_,rfl⟩
      rw [←hn] at d0 d1 hr1 hr2 hv1
      have Ky:=hid (show ∀V,Upd (fun _=>False) wr V→Calls Tryz.prog 108 #[.slice va n vc,.slice ua n uc] V fun e w'=>e=.returned (.bool true)∧Upd (fun _=>False) V w' from fun V hV=>sameNamesS_any (SRow.upd hr1 hV (fun _ _ e=>e)) (SRow.upd hr2 hV (fun _ _ e=>e)))
      have Ka:=hid (show ∀V,Upd (fun _=>False) wr V→V.cell? ⟨k.p,0,none⟩=some (.slice (some ⟨ga,0,none⟩) N lc)∧V.cell? ⟨k.p,1,none⟩=some (.slice (some ⟨gw,0,none⟩) N wc)∧V.cell? ⟨ga,j,none⟩=some (.slice va n vc)∧V.cell? ⟨gw,j,none⟩=some (.slice ua n uc) from fun V hV=>⟨(World.cell?_of_block (a:=⟨k.p,0,none⟩) (hV.block _ hp (fun e=>e))).trans c0,(World.cell?_of_block (a:=⟨k.p,1,none⟩) (hV.block _ hp (fun e=>e))).trans c1,(World.cell?_of_block (a:=⟨ga,j,none⟩) (hV.block _ hg (fun e=>e))).trans d0,(World.cell?_of_block (a:=⟨gw,j,none⟩) (hV.block _ hgw (fun e=>e))).trans d1⟩)
      have hcur:=hid (show Upd (fun _=>False) wr wr.drew from (Upd.refl _ wr).drew)
      clear hup hcell hkr hr1 hr2 hvs hus hn e1 e2
      go_upto_region 4 with fail
      go_region_held3 (fun V=>V.cell? ⟨k.p,0,none⟩=some (.slice (some ⟨ga,0,none⟩) N lc)∧V.cell? ⟨k.p,1,none⟩=some (.slice (some ⟨gw,0,none⟩) N wc)∧V.cell? ⟨ga,j,none⟩=some (.slice va n vc)∧V.cell? ⟨gw,j,none⟩=some (.slice ua n uc))
        (first|exact Ka.out _ hcur.out|exact (Ka.out _ hcur.out).1|exact (Ka.out _ hcur.out).2.1|exact (Ka.out _ hcur.out).2.2|exact (Ka.out _ hcur.out).2.2.1|exact (Ka.out _ hcur.out).2.2.2|go_keep)
        (first
          | (go_at_call 108;refine (Ky.out _ hcur.out).mono ?_;rintro e w3 ⟨rfl,h3⟩;have hcur:=hid (hcur.out.trans h3 (fun _ _ e=>e));clear h3)
          | fail)
      all_goals
       have Kz := hid (Kd.out.trans hcur.out (fun _ _ e => e))
       clear c0 c1 hp hg hgw d0 d1
       go_wp2
       go_roundw
       case rel => exact ⟨j + 1, by omega, by go_num, Kz.out⟩
       case measure => simp [intOf]; omega
    · obtain rfl:j=N:=by omega
      have Za:=hid (HK.out.marked0 (M:=MN) hup)
      clear hup hcell c1
      go_wp2
      go_loopw [4] (fun i wr=>∃j2:Nat,j2≤j∧i=.int .i64 j2∧Marked 9 1 w wr k MN j2) (fun i _=>j-(intOf i).toNat)
      case atStart=>exact ⟨0,Nat.zero_le _,rfl,Za.out⟩
      case round=>
        clear c0 hp
        obtain ⟨j2,hj2,rfl,hm⟩:=hrel
        have HM:=hid hm
        obtain ⟨c0,hp,hcell⟩:=Kg.out _ _ hm.upd (fun _ _ e=>e)
        by_cases hlt:j2<j
        · have hlt':j2<k.ls.length:=by have:=HN.out;omega
          obtain rfl:=Kh.out (by omega)
          obtain ⟨hg,d0⟩:=hcell j2 hlt'
          have hrow:=hm.rest j2 hlt' (Nat.le_refl _)
          have hsh:=Kq.out j2 hlt'
          obtain ⟨v,hv⟩:∃v,v=k.ls[j2].v:=⟨_,rfl⟩
          obtain ⟨n,hn⟩:∃n,n=k.ls[j2].n:=⟨_,rfl⟩
          have HV:=hid hv;have Kr:=hid hn
          rw [←hv] at d0
          rw [←hn] at hsh
          rw [←hv,←hn] at hrow
          obtain ⟨va,vc,hvs,hv1,hv2,-⟩:=SRow.slice hrow
          have Kb:=hid hvs;have Kc:=hid hrow
          rw [hvs] at d0
          clear hm hcell hrow hv hn hvs
          go_wp2
          obtain ⟨wo,rfl⟩:∃wo,wo=wr:=⟨_,rfl⟩
          go_loopw [5] (fun c wr=>∃i:Nat,i≤n∧c=.int .i64 i∧Upd (fun q=>v.ownBlock=some q) wo wr∧SRow wr 9 1 v n (rep i (MN j2)++k.ls[j2].xs.drop (i*1))) (fun c _=>n-(intOf c).toNat)
          case atStart=>exact ⟨0,Nat.zero_le _,rfl,Upd.refl _ _,by simpa [rep] using Kc.out⟩
          case round=>
            clear c0 hp hg d0
            obtain ⟨i,hi,rfl,hup,hrow⟩:=hrel
            have hU:Upd k.vown w wr:=HM.out.upd.trans hup (fun q _ e=>⟨j2,by have:=HN.out;omega,by rw [←HV.out];exact e⟩)
            have Ka:=hid (show ∀V,Upd (fun _=>False) wr V→V.cell? ⟨k.p,0,none⟩=some (.slice (some ⟨ga,0,none⟩) j lc)∧V.cell? ⟨ga,j2,none⟩=some (.slice va n vc) from fun V hV=>by
              obtain ⟨x0,x1,x2⟩:=Kg.out _ _ (hU.trans hV (fun _ _ e=>e.elim)) (fun _ _ e=>e)
              obtain ⟨x3,x4⟩:=x2 j2 hlt'
              rw [←HV.out,Kb.out] at x4
              exact ⟨x0,x4⟩)
            obtain ⟨c0,hp,hcell⟩:=Kg.out _ _ hU (fun _ _ e=>e)
            obtain ⟨hg,d0⟩:=hcell j2 hlt'
            rw [←HV.out,Kb.out] at d0
            have Kd:=hid hup;have HR:=hid hrow
            clear hup hrow hU hcell
            by_cases hlt2:i<n
            · have hxl:k.ls[j2].xs.length=n:=by have:=Kc.out.1;simpa using this
              have Kl:=hid (show ∀V,Upd (fun _=>False) wr V→∃gv old,va=some ⟨gv,0,none⟩∧V.cell? ⟨gv,i,none⟩=some old∧V.frozen? ⟨gv,i,none⟩=false∧gv<V.heap.size∧SRow (V.setCell ⟨gv,i,none⟩ (.string (markS j2))) 9 1 v n (rep (i+1) (MN j2)++k.ls[j2].xs.drop ((i+1)*1)) from fun V hV=>by
                obtain ⟨gv,cap,old,e,hset,q1,q2,q3,-,-⟩:=SRow.set (m:=i) (u:=.string (markS j2)) (SRow.upd HR.out hV (fun _ _ e=>e)) (by omega)
                rw [rep_set (M:=MN j2) (u:=.string (markS j2)) hxl hlt2 rfl] at hset
                rw [Kb.out] at e
                injection e with e1 e2 e3
                exact ⟨gv,old,e1,q1,q2,q3,hset⟩)
              obtain ⟨gv,old,hva,-⟩:=Kl.out wr (Upd.refl _ _)
              subst hva
              have Ki:=hid (show ∀V,Upd (fun _=>False) wr V→∃old,V.cell? ⟨gv,i,none⟩=some old∧V.frozen? ⟨gv,i,none⟩=false∧gv<V.heap.size∧SRow (V.setCell ⟨gv,i,none⟩ (.string (markS j2))) 9 1 v n (rep (i+1) (MN j2)++k.ls[j2].xs.drop ((i+1)*1)) from fun V hV=>by
                obtain ⟨gv',old,e,q⟩:=Kl.out V hV
                injection e with e
                injection e with e
                subst e
                exact ⟨old,q⟩)
              have Kj:=hid (fun V=>markOf_any j2 (by omega) V)
              have hcur:=hid (show Upd (fun _=>False) wr wr.drew from (Upd.refl _ wr).drew)
              have hvn:i<vc:=by omega
              have hgvo:=HK.out.vOut (q:=gv) ⟨j2,hlt',by rw [←HV.out,Kb.out];rfl⟩
              have hne1:=hid (show ¬k.p=gv from fun e=>hgvo.1 e.symm)
              have hne2:=hid (show ¬ga=gv from fun e=>hgvo.2.1 (by rw [Kv.out,e];rfl))
              clear hgvo
              clear hxl
              go_upto_region 12 with fail
              go_region_held3 (fun V=>V.cell? ⟨k.p,0,none⟩=some (.slice (some ⟨ga,0,none⟩) j lc)∧V.cell? ⟨ga,j2,none⟩=some (.slice (some ⟨gv,0,none⟩) n vc))
                (first|exact Ka.out _ hcur.out|exact (Ka.out _ hcur.out).1|exact (Ka.out _ hcur.out).2|exact (cell_setCell_ne (a:=⟨gv,i,none⟩) (b:=⟨k.p,0,none⟩) _ hne1.out).trans (Ka.out _ hcur.out).1|exact (cell_setCell_ne (a:=⟨gv,i,none⟩) (b:=⟨ga,j2,none⟩) _ hne2.out).trans (Ka.out _ hcur.out).2|exact ⟨(cell_setCell_ne (a:=⟨gv,i,none⟩) (b:=⟨k.p,0,none⟩) _ hne1.out).trans (Ka.out _ hcur.out).1,(cell_setCell_ne (a:=⟨gv,i,none⟩) (b:=⟨ga,j2,none⟩) _ hne2.out).trans (Ka.out _ hcur.out).2⟩|go_keep)
                (first
                  | (go_at_call 109;refine (Kj.out _).mono ?_;rintro e w3 ⟨rfl,h3⟩;have hcur:=hid (hcur.out.trans h3 (fun _ _ e=>e));clear h3;obtain ⟨old3,z1,z2,z3,-⟩:=Ki.out _ hcur.out)
                  | fail)
              all_goals
                obtain ⟨-,-,-,-,z4⟩:=Ki.out _ hcur.out
                have Zb:=hid z4
                have Kn:=hid (Kd.out.trans hcur.out (fun _ _ e=>e.elim))
                clear z1 z2 z3 z4 c0 hp hg d0
                go_wp2
                go_roundw
                case rel=>exact ⟨i+1,by omega,by go_num,Kn.out.setCell (p:=⟨gv,i,none⟩) (fun _=>by rw [Kb.out];rfl) _,Zb.out⟩
                case measure=>simp [intOf];omega
            · obtain rfl:i=n:=by omega
              have hxl:k.ls[j2].xs.length=i:=by have:=Kc.out.1;simpa using this
              have hfin:SRow wr 9 1 k.ls[j2].v k.ls[j2].n (rep k.ls[j2].n (MN j2)):=by
                have h:=HR.out
                rw [List.drop_eq_nil_of_le (by omega),List.append_nil,HV.out,Kr.out] at h
                exact h
              have HF:=hid hfin
              clear hfin hxl
              go_wp2
              go_roundw
              case rel=>exact ⟨j2+1,by omega,by go_num,HM.out.step HK.out hlt' (Kd.out.mono (fun q _ e=>by rw [←HV.out];exact e)) HF.out⟩
              case measure=>simp [intOf];omega
        · obtain rfl:j2=j:=by omega
          have hgr0:Grown 73 9 1 w wr k MN 0 (.slice none 0 0) []:=by have h:=HM.out;rw [HN.out] at h;exact h.grown
          have Zc:=hid hgr0
          clear hgr0 hm hcell
          go_wp2
          go_loopw [6,7] (fun mv i wr=>∃j3:Nat,j3≤j2∧i=.int .i64 j3∧∃ma mc gs,mv=.slice ma j3 mc∧Grown 73 9 1 w wr k MN j3 mv gs) (fun _ i _=>j2-(intOf i).toNat)
          case atStart=>exact ⟨0,Nat.zero_le _,rfl,none,0,[],rfl,Zc.out⟩
          case round=>
            clear c0 hp
            obtain ⟨j3,hj3,rfl,ma,mc,gs,rfl,hgr⟩:=hrel
            have HG:=hid hgr
            obtain ⟨c0,hp,hcell⟩:=Kg.out _ _ hgr.upd (fun _ _ e=>e)
            by_cases hlt:j3<j2
            · have hlt':j3<k.ls.length:=by have:=HN.out;omega
              obtain rfl:=Kh.out (by omega)
              obtain ⟨hg,d0⟩:=hcell j3 hlt'
              have hrow:=hgr.rest j3 hlt' (Nat.le_refl _)
              have hsh:=Kq.out j3 hlt'
              obtain ⟨v,hv⟩:∃v,v=k.ls[j3].v:=⟨_,rfl⟩
              obtain ⟨n,hn⟩:∃n,n=k.ls[j3].n:=⟨_,rfl⟩
              have HV:=hid hv;have Kr:=hid hn
              rw [←hv] at d0
              rw [←hn] at hsh
              rw [←hv,←hn] at hrow
              obtain ⟨va,vc,hvs,hv1,hv2,hz⟩:=SRow.slice hrow
              have Kb:=hid hvs;have Kc:=hid hrow;have HZ:=hid hz
              have Kj:=hid (fun V=>markOf_any j3 (by omega) V)
              rw [hvs] at d0
              clear hgr hcell hrow hv hn hvs hz
              go_wp2
              obtain ⟨wo,rfl⟩:∃wo,wo=wr:=⟨_,rfl⟩
              go_loopw [8] (fun gvv wr=>∃L:Nat,n≤L∧L≤2*n+20∧∃gao gcap,gvv=.slice gao L gcap∧SRow wr 9 1 (.slice gao L gcap) L (rep L (MN j3))∧FullG wr (.slice va n vc) (MN j3)∧Upd (fun q=>v.ownBlock=some q) wo wr∧∀q,(Value.slice gao L gcap).ownBlock=some q→v.ownBlock=some q∨wo.heap.size≤q) (fun gvv _=>2*n+20-lenOf gvv)
              case atStart=>exact ⟨n,Nat.le_refl _,by omega,va,vc,rfl,by rw [←Kb.out];exact Kc.out,by rw [←Kb.out];exact FullG.of_owns Kc.out (by simp [MN]),Upd.refl _ _,fun q e=>.inl (by rw [Kb.out];exact e)⟩
              case round=>
                obtain ⟨L,hL1,hL2,gao,gcap,rfl,hd,hf,hup,hown⟩:=hrel
                have Ko:=hid hd;have Ks:=hid hf;have Kf:=hid hup;have Ke:=hid hown
                clear hd hf hup hown
                by_cases hlt2:L<2*n+20
                · have hlt3:(L:Int)<2*(n:Int)+20:=by omega
                  go_wp2_with fail
                  refine (Kj.out _).mono ?_
                  rintro e w2b ⟨rfl,hu2b⟩
                  obtain ⟨gv3,w3,hrun3,hd3,hf3,hu3,ha3⟩:=rowStrs.grow (M:=MN j3) rfl (fun u hu=>by simp [MN] at hu;subst hu;rfl) (SRow.upd Ko.out hu2b (fun _ _ e=>e)) (Ks.out.upd hu2b (fun _ _ e=>e)) HZ.out hL1 (by omega) 73
                  obtain ⟨gao3,gcap3,hgs3,-,-,-⟩:=SRow.slice hd3
                  have hup3:Upd (fun q=>v.ownBlock=some q) wo w3:=(Kf.out.trans hu2b (fun _ _ e=>e.elim)).trans hu3 (fun q hq e=>(Ke.out q e).resolve_right (by omega))
                  have hown3:∀q,gv3.ownBlock=some q→v.ownBlock=some q∨wo.heap.size≤q:=fun q e=>(ha3 q e).elim (Ke.out q) (fun h=>.inr (Nat.le_trans (Nat.le_trans Kf.out.size hu2b.size) h))
                  rw [hgs3] at hrun3 hd3 hown3
                  have hrun3':(Builtin.append_ #[73,73] 73 #[.slice gao L gcap,.slice (some ⟨w2b.heap.size,0,none⟩) 1 1]).run Tryz.prog (w2b.alloc (.cells #[.string (markS j3)] 9))=.ok (.slice gao3 (L+1) gcap3) w3:=hrun3
                  have Zd:=hid hrun3';have Ze:=hid hd3;have Zf:=hid hf3;have Kt:=hid hup3;have Kp:=hid hown3
                  clear hrun3 hrun3' hd3 hf3 hup3 hown3 hu3 ha3 hgs3 hu2b
                  go_wp2_with (at_builtin;refine wpList_append_run rfl _ _ _ rfl rfl rfl Zd.out ?_)
                  go_roundw
                  case rel=>exact ⟨L+1,by omega,by omega,gao3,gcap3,rfl,Ze.out,Zf.out,Kt.out,Kp.out⟩
                  case measure=>simp [lenOf];omega
                · obtain rfl:L=2*n+20:=by omega
                  have hnl:¬((2*n+20:Nat):Int)<2*(n:Int)+20:=by omega
                  have hrm:SRow wr 73 1 (.slice ma j3 mc) j3 gs:=SRow.upd HG.out.row Kf.out (fun q e1 e2=>by
                    have h1:=HG.out.new q e1
                    have h2:=HK.out.lt ⟨_,KP.oV hlt' (by rw [←HV.out];exact e2)⟩
                    omega)
                  obtain ⟨mv',w4,hrun4,r4,u4,o4,-⟩:=rowStrss.push (M:=[.slice gao (2*n+20) gcap]) hrm rfl (fun x hx=>by simp at hx;subst hx;rfl) (by omega) 99
                  obtain ⟨ma4,mc4,hms4,-,-,-⟩:=SRow.slice r4
                  rw [hms4] at hrun4 r4 o4
                  have hrun4':(Builtin.append_ #[99,99] 99 #[.slice ma j3 mc,.slice (some ⟨wr.heap.size,0,none⟩) 1 1]).run Tryz.prog (wr.alloc (.cells #[.slice gao (2*n+20) gcap] 73))=.ok (.slice ma4 (j3+1) mc4) w4:=hrun4
                  have hstep:=HG.out.step HK.out hlt' (Kf.out.mono (fun q _ e=>by rw [←HV.out];exact e)) (by rw [←HV.out,Kb.out];exact Ks.out) (FullG.of_owns Ko.out (by simp [MN])) (fun q e=>⟨by rw [←HV.out];exact Ke.out q e,(Ko.out.lt q e)⟩) r4 u4 o4
                  have Ku:=hid hrun4';have Zg:=hid hstep
                  obtain ⟨L2,hL2e⟩:∃L2,L2=2*n+20:=⟨_,rfl⟩
                  rw [←hL2e] at Ku hnl⊢
                  clear hrun4 hrun4' hstep hrm r4 u4 o4 hms4 hL2e
                  go_wp2_with (at_builtin;refine wpList_append_run rfl _ _ _ rfl rfl rfl Ku.out ?_)
                  go_roundw
                  case rel=>exact ⟨j3+1,by omega,by go_num,ma4,mc4,_,rfl,Zg.out⟩
                  case measure=>simp [intOf];omega
            · obtain rfl:j3=j2:=by omega
              have Kk:=HG
              clear hgr hcell
              go_wp2
              obtain ⟨wo,rfl⟩:∃wo,wo=wr:=⟨_,rfl⟩
              go_loopw [10] (fun i wr=>∃j4:Nat,j4≤j3∧i=.int .i64 j4∧Upd (fun _=>False) wo wr) (fun i _=>j3-(intOf i).toNat)
              case atStart=>exact ⟨0,Nat.zero_le _,rfl,Upd.refl _ _⟩
              case round=>
                clear c0 hp
                obtain ⟨j4,hj4,rfl,hup⟩:=hrel
                have Kd:=hid hup
                have hU:Upd k.vown w wr:=Kk.out.upd.trans hup (fun _ _ e=>e.elim)
                obtain ⟨c0,hp,hcell⟩:=Kg.out _ _ hU (fun _ _ e=>e)
                by_cases hlt:j4<j3
                · have hlt':j4<k.ls.length:=by have:=HN.out;omega
                  have hltg:j4<gs.length:=by rw [Kk.out.len];exact hlt
                  obtain rfl:=Kh.out (by omega)
                  obtain ⟨hg,d0⟩:=hcell j4 hlt'
                  have hf1:=(Kk.out.full j4 hlt' hlt).upd Kd.out (fun _ _ e=>e)
                  have hf2:=(Kk.out.gfull j4 hltg).upd Kd.out (fun _ _ e=>e)
                  obtain ⟨gm,cm,em,hgm,d1⟩:=SRow.cell (SRow.upd Kk.out.row Kd.out (fun _ _ e=>e)) (k:=j4) (u:=gs[j4]) (by simp [hltg])
                  injection em with em1 _ em3
                  subst em1 em3
                  obtain ⟨v,hv⟩:∃v,v=k.ls[j4].v:=⟨_,rfl⟩
                  obtain ⟨g2,hg2⟩:∃g,g=gs[j4]:=⟨_,rfl⟩
                  rw [←hv] at d0 hf1
                  rw [←hg2] at d1 hf2
                  obtain ⟨va,vn,vc,rfl,v1,v2,v3⟩:=id hf1
                  obtain ⟨ga2,gn2,gc2,rfl,x1,x2,x3⟩:=id hf2
                  have HO:=hid (show ∀V,Upd (fun _=>False) wr V→∀a n c,((a=va∧n=vn∧c=vc)∨(a=ga2∧n=gn2∧c=gc2))→Calls Tryz.prog 110 #[.slice a n c,.string (markS j4)] V fun e w'=>e=.returned (.bool true)∧Upd (fun _=>False) V w' from fun V hV a n c h=>by
                    rcases h with ⟨rfl,rfl,rfl⟩|⟨rfl,rfl,rfl⟩
                    · exact alone_any (hf1.upd hV (fun _ _ e=>e))
                    · exact alone_any (hf2.upd hV (fun _ _ e=>e)))
                  have Kj:=hid (fun V=>markOf_any j4 (by omega) V)
                  have Ka:=hid (show ∀V,Upd (fun _=>False) wr V→V.cell? ⟨k.p,0,none⟩=some (.slice (some ⟨ga,0,none⟩) j3 lc)∧V.cell? ⟨ga,j4,none⟩=some (.slice va vn vc)∧V.cell? ⟨gm,j4,none⟩=some (.slice ga2 gn2 gc2) from fun V hV=>⟨(World.cell?_of_block (a:=⟨k.p,0,none⟩) (hV.block _ hp (fun e=>e))).trans c0,(World.cell?_of_block (a:=⟨ga,j4,none⟩) (hV.block _ hg (fun e=>e))).trans d0,(World.cell?_of_block (a:=⟨gm,j4,none⟩) (hV.block _ hgm (fun e=>e))).trans d1⟩)
                  have hcur:=hid (show Upd (fun _=>False) wr wr.drew from (Upd.refl _ wr).drew)
                  clear hup hcell hf1 hf2 v3 x3 hU hv hg2
                  go_upto_region 25 with fail
                  go_region_held3 (fun V=>V.cell? ⟨k.p,0,none⟩=some (.slice (some ⟨ga,0,none⟩) j3 lc)∧V.cell? ⟨ga,j4,none⟩=some (.slice va vn vc)∧V.cell? ⟨gm,j4,none⟩=some (.slice ga2 gn2 gc2))
                    (first|exact Ka.out _ hcur.out|exact (Ka.out _ hcur.out).1|exact (Ka.out _ hcur.out).2.1|exact (Ka.out _ hcur.out).2.2|exact (Ka.out _ hcur.out).2.2.1|exact (Ka.out _ hcur.out).2.2.2|go_keep)
                    (first
                      | (go_at_call 109;refine (Kj.out _).mono ?_;rintro e w3 ⟨rfl,h3⟩;have hcur:=hid (hcur.out.trans h3 (fun _ _ e=>e));clear h3)
                      | (go_at_call 110;refine (HO.out _ hcur.out _ _ _ (by first|exact .inl ⟨rfl,rfl,rfl⟩|exact .inr ⟨rfl,rfl,rfl⟩)).mono ?_;rintro e w3 ⟨rfl,h3⟩;have hcur:=hid (hcur.out.trans h3 (fun _ _ e=>e));clear h3)
                      | fail)
                  all_goals
                    have Kn:=hid (Kd.out.trans hcur.out (fun _ _ e=>e))
                    clear c0 hp hg d0 d1 hgm
                    go_wp2
                    go_roundw
                    case rel=>exact ⟨j4+1,by omega,by go_num,Kn.out⟩
                    case measure=>simp [intOf];omega
                · obtain rfl:j4=j3:=by omega
                  clear hup hcell
                  go_wp2
                  go_ret
                  exact ⟨rfl,hU.mono (fun q _ e=>by obtain ⟨i,hi,e⟩:=e;exact ⟨_,KP.oV hi e⟩)⟩
end Go.Proofs.YtgaidmohdhaonaaGreatDoor
