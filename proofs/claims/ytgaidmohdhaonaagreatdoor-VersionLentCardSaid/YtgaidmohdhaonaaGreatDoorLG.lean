/-
  Things that lie in memory beside one another, each in blocks of its own: what one of them does leaves the others. No walk stands here.
  What VersionLent holds, as things beside one another: disks, the book, the lists of runs, boxes, what was just told. No walk stands here.
-/
import Derived.Test.YtgaidmohdhaonaaGreatDoorGA
import Derived.Test.YtgaidmohdhaonaaGreatDoorLE
import Derived.Test.YtgaidmohdhaonaaGreatDoorLF
set_option linter.unusedVariables false
set_option linter.unusedSimpArgs false
set_option linter.unnecessarySimpa false
set_option linter.unusedSectionVars false
namespace Go.Proofs.YtgaidmohdhaonaaGreatDoor
open Go Go.RowKit
structure Part where
 own:Nat→Prop
 ok:World→Prop
 stay:∀(S:Nat→Prop) w w',ok w→Upd S w w'→(∀q,own q→¬S q)→ok w'
 lt:∀w,ok w→∀q,own q→q<w.heap.size
def Part.box (b:Nat) (o:Obj):Part:=⟨fun q=>q=b,fun w=>w.heap[b]? = some o,fun _ _ _ h hu hn=>hu.get h (hn b rfl),fun _ h q hq=>hq ▸ lt_of_heap h⟩
def Part.none:Part:=⟨fun _=>False,fun _=>True,fun _ _ _ _ _ _=>trivial,fun _ _ _ hq=>hq.elim⟩
structure Parts (W w:World) (P:Nat→Part):Prop where
 ok:∀i,(P i).ok w
 low:∀i q,(P i).own q→W.heap.size≤q
 lab:∃lab:Nat→Nat,∀i q,(P i).own q→lab q=i
 upd:Upd (fun _=>False) W w
def setP (P:Nat→Part) (i:Nat) (p:Part) (j:Nat):Part:=if j=i then p else P j
theorem setP_at (P:Nat→Part) (i:Nat) (p:Part):setP P i p i=p:=if_pos rfl
theorem setP_ne (P:Nat→Part) {i j:Nat} (p:Part) (h:j≠i):setP P i p j=P j:=if_neg h
section
variable {W w w':World} {P:Nat→Part} {S X:Nat→Prop}
theorem Parts.one (h:Parts W w P) {i j q:Nat} (h1:(P i).own q) (h2:(P j).own q):i=j:=by
 obtain ⟨lab,hl⟩:=h.lab
 exact (hl i q h1).symm.trans (hl j q h2)
theorem Parts.lt (h:Parts W w P) {i q:Nat} (h1:(P i).own q):q<w.heap.size:=(P i).lt w (h.ok i) q h1
theorem Parts.quiet (h:Parts W w P) (hu:Upd (fun _=>False) w w'):Parts W w' P:=
 ⟨fun i=>(P i).stay _ _ _ (h.ok i) hu (fun _ _ e=>e),h.low,h.lab,h.upd.trans hu (fun _ _ e=>e)⟩
theorem Parts.step (h:Parts W w P) (i:Nat) (p:Part) (hu:Upd S w w') (hS:∀q,q<w.heap.size→S q→(P i).own q) (hok:p.ok w') (hf:∀q,p.own q→(P i).own q∨X q∨w.heap.size≤q) (hX:∀q,X q→W.heap.size≤q∧∀j,¬(P j).own q):Parts W w' (setP P i p):=by
 obtain ⟨lab,hl⟩:=h.lab
 classical
 have hW:=h.upd.size
 refine ⟨fun j=>?_,fun j q hq=>?_,⟨fun q=>if (∃j,(P j).own q) then lab q else i,fun j q hq=>?_⟩,h.upd.trans hu (fun q hq e=>by have:=h.low i q (hS q (by omega) e);omega)⟩
 ·by_cases e:j=i
  ·subst e;rw [setP_at];exact hok
  ·rw [setP_ne _ _ e]
   exact (P j).stay _ _ _ (h.ok j) hu (fun q hq e2=>e (h.one hq (hS q (h.lt hq) e2)))
 ·by_cases e:j=i
  ·subst e
   rw [setP_at] at hq
   rcases hf q hq with h1|h1|h1
   ·exact h.low _ q h1
   ·exact (hX q h1).1
   ·omega
  ·rw [setP_ne _ _ e] at hq
   exact h.low j q hq
 ·show (if (∃j,(P j).own q) then lab q else i)=j
  by_cases e:j=i
  ·subst e
   rw [setP_at] at hq
   rcases hf q hq with h1|h1|h1
   ·rw [if_pos ⟨_,h1⟩];exact hl _ q h1
   ·rw [if_neg (fun ⟨j',h2⟩=>(hX q h1).2 j' h2)]
   ·rw [if_neg (fun ⟨j',h2⟩=>by have:=h.lt h2;omega)]
  ·rw [setP_ne _ _ e] at hq
   rw [if_pos ⟨_,hq⟩]
   exact hl j q hq
theorem Parts.turn (h:Parts W w P) (i:Nat) (p:Part) (hu:Upd S w w') (hS:∀q,q<w.heap.size→S q→(P i).own q) (hok:p.ok w') (hf:∀q,p.own q→(P i).own q∨w.heap.size≤q):Parts W w' (setP P i p):=
 h.step (X:=fun _=>False) i p hu hS hok (fun q hq=>(hf q hq).imp id .inr) (fun _ e=>e.elim)
theorem Parts.fresh (h:Parts W w P) {q:Nat} (hq:w.heap.size≤q):W.heap.size≤q∧∀j,¬(P j).own q:=
 ⟨Nat.le_trans h.upd.size hq,fun j e=>by have:=h.lt e;omega⟩
theorem Parts.same {P':Nat→Part} (h:Parts W w P) (e:∀i,P' i=P i):Parts W w P':=by
 have:P'=P:=funext e
 rw [this];exact h
theorem Parts.start (W:World):Parts W W (fun _=>Part.none):=⟨fun _=>trivial,fun _ _ e=>e.elim,⟨fun _=>0,fun _ _ e=>e.elim⟩,Upd.refl _ _⟩
end
def Part.ds (s:DS):Part:=⟨fun q=>q∈s.blocks,fun w=>s.In w,fun _ _ _ h hu hn=>h.upd hu hn,fun _ h q hq=>h.lt q hq⟩
def Part.book (k:KP):Part:=⟨k.own,fun w=>k.B w,fun _ _ _ h hu hn=>h.upd hu hn,fun _ h q hq=>h.lt hq⟩
def Part.names (k:KP):Part:=⟨k.own,fun w=>k.N w,fun _ _ _ h hu hn=>h.upd hu hn,fun _ h q hq=>h.lt hq⟩
def Part.metas (M:KM):Part:=⟨M.own,fun w=>M.In w,fun _ _ _ h hu hn=>h.upd hu hn,fun _ h q hq=>h.lt hq⟩
def Part.data (v:Value) (bs:List UInt8):Part:=⟨fun q=>v.ownBlock=some q,fun w=>DataIs w v bs,fun _ _ _ h hu hn=>h.upd hu hn,fun _ h q hq=>h.lt q hq⟩
def Part.runs (v:Value) (L:List MV):Part:=⟨fun q=>v.ownBlock=some q∨q∈keyBlocks L,fun w=>RunsOwn w 0 v L,fun _ _ _ h hu hn=>h.upd hu (fun q e=>hn q (.inl e)) (fun q e=>hn q (.inr e)),fun _ h q hq=>hq.elim (fun e=>(h.row.lt q e).2) h.key_lt⟩
section
variable {W0 W W':World} {P:Nat→Part}
theorem Parts.drop (h:Parts W0 W P) (i:Nat):Parts W0 W (setP P i Part.none):=
 h.turn (S:=fun _=>False) i Part.none (Upd.refl _ _) (fun _ _ e=>e.elim) trivial (fun _ e=>e.elim)
theorem Parts.of (h:Parts W0 W P) {i:Nat} {p:Part} (e:P i=p):p.ok W:=e ▸ h.ok i
theorem Parts.join (h:Parts W0 W P) (i:Nat) (p:Part) (hok:p.ok W) (hX:∀q,p.own q→W0.heap.size≤q∧∀j,¬(P j).own q):Parts W0 W (setP P i p):=
 h.step (S:=fun _=>False) (X:=p.own) i p (Upd.refl _ _) (fun _ _ e=>e.elim) hok (fun q hq=>.inr (.inl hq)) hX
theorem Parts.add (h:Parts W0 W P) (i:Nat) (p:Part) (hu:Upd (fun _=>False) W W') (hok:p.ok W') (hX:∀q,p.own q→W.heap.size≤q):Parts W0 W' (setP P i p):=
 h.turn i p hu (fun _ _ e=>e.elim) hok (fun q hq=>.inr (hX q hq))
theorem Parts.ver (h:Parts W0 W P) (i j:Nat) (hij:i≠j) {base:Nat} (hX:∀q,base≤q→W0.heap.size≤q∧∀t,¬(P t).own q) {v:Value} {x:VerA} (hv:VerOwn W base v x):∃st rs L,v=.agg #[.int .i64 x.gen,.int .i64 x.flushed,.int .i64 x.next,.int .i64 x.low,.int .i64 x.clock,st,rs]∧x.runs=L.map MV.m∧(keyBlocks L).Nodup∧
  Parts W0 W (setP P i (Part.data st x.state))∧Parts W0 W (setP (setP P i (Part.data st x.state)) j (Part.runs rs L)):=by
 obtain ⟨st,rs,L,hve,hd,hr,hx,hn,hb⟩:=hv.ex
 have h1:=h.join i (Part.data st x.state) hd (fun q hq=>hX q (hb q (List.mem_append_left _ (by have hq:st.ownBlock=some q:=hq;simp [hq]))))
 rw [List.nodup_append] at hn
 refine ⟨st,rs,L,hve,hx,hn.2.1,h1,h1.join j (Part.runs rs L) (hr.lowM (Nat.zero_le _)) (fun q hq=>?_)⟩
 have hlow:base≤q:=hq.elim (fun e=>(hr.row.lt q e).1) (fun e=>hb q (List.mem_append_right _ e))
 refine ⟨(hX q hlow).1,fun t ht=>?_⟩
 by_cases et:t=i
 ·subst et
  rw [setP_at] at ht
  have ht:st.ownBlock=some q:=ht
  rcases hq with e|e
  ·
   obtain ⟨-,hrr⟩:=hr.row
   rcases hrr with ⟨rfl,-⟩|⟨g,cap,cur,rfl,-,hg,-⟩
   ·cases e
   rcases hd with ⟨rfl,-⟩|⟨g2,cap2,cur2,rfl,hg2,-⟩
   ·cases ht
   have e1:g=q:=by simpa [Value.ownBlock] using e
   have e2:g2=q:=by simpa [Value.ownBlock] using ht
   rw [e1] at hg
   rw [e2,hg] at hg2
   injection hg2 with hg2
   injection hg2 with _ hg2
   exact absurd hg2 (by decide)
  ·exact hn.2.2 q (by simpa using ht) q e rfl
 ·rw [setP_ne _ _ et] at ht
  exact (hX q hlow).2 t ht
end
structure VL (W0 W:World) (n:Nat) (dp:Nat→Nat) (Y:Nat→VerA) (pb pm:Nat) (c:Nat) (P:Nat→Part) (D:Nat→DS) (B:KP) (M:KM):Prop where
 ps:Parts W0 W P
 ds:∀j,j<n→P (30+j)=Part.ds (D j)
 dp:∀j,j<n→(D j).p=dp j
 fl:∀j,j<n→Fl 1048576 (D j).abs [oF (Y j)]
 bk:P 2=Part.book B
 bp:B.p=pb
 bs:SameB B
 bl:B.ls.length≤3*c
 mt:P 3=Part.metas M
 mp:M.p=pm
 ml:M.ls.length≤2*c
section
variable {W0 W W':World} {n:Nat} {dp:Nat→Nat} {Y:Nat→VerA} {pb pm c:Nat} {P:Nat→Part} {D:Nat→DS} {B:KP} {M:KM}
theorem VL.quiet (h:VL W0 W n dp Y pb pm c P D B M) (hu:Upd (fun _=>False) W W'):VL W0 W' n dp Y pb pm c P D B M:=
 ⟨h.ps.quiet hu,h.ds,h.dp,h.fl,h.bk,h.bp,h.bs,h.bl,h.mt,h.mp,h.ml⟩
theorem VL.set (h:VL W0 W n dp Y pb pm c P D B M) {i:Nat} {p:Part} (hi:i≠2∧i≠3∧i<30) (hp:Parts W0 W' (setP P i p)):VL W0 W' n dp Y pb pm c (setP P i p) D B M:=
 ⟨hp,fun j hj=>by rw [setP_ne _ _ (by omega)];exact h.ds j hj,h.dp,h.fl,by rw [setP_ne _ _ (by omega)];exact h.bk,h.bp,h.bs,h.bl,by rw [setP_ne _ _ (by omega)];exact h.mt,h.mp,h.ml⟩
theorem VL.ver (h:VL W0 W n dp Y pb pm c P D B M) {i j:Nat} (hi:i≠2∧i≠3∧i<30) (hj:j≠2∧j≠3∧j<30) (hij:i≠j) {base:Nat} (hX:∀q,base≤q→W0.heap.size≤q∧∀t,¬(P t).own q) {v:Value} {x:VerA} (hv:VerOwn W base v x):∃st rs L,v=.agg #[.int .i64 x.gen,.int .i64 x.flushed,.int .i64 x.next,.int .i64 x.low,.int .i64 x.clock,st,rs]∧x.runs=L.map MV.m∧(keyBlocks L).Nodup∧
  VL W0 W n dp Y pb pm c (setP (setP P i (Part.data st x.state)) j (Part.runs rs L)) D B M:=by
 obtain ⟨st,rs,L,h1,h2,h3,h4,h5⟩:=h.ps.ver i j hij hX hv
 exact ⟨st,rs,L,h1,h2,h3,(h.set hi h4).set hj h5⟩
theorem VL.more (h:VL W0 W n dp Y pb pm c P D B M) {c':Nat} (hc:c≤c'):VL W0 W n dp Y pb pm c' P D B M:=
 ⟨h.ps,h.ds,h.dp,h.fl,h.bk,h.bp,h.bs,by have:=h.bl;omega,h.mt,h.mp,by have:=h.ml;omega⟩
theorem VL.dsIn (h:VL W0 W n dp Y pb pm c P D B M) {j:Nat} (hj:j<n):(D j).In W:=h.ps.of (h.ds j hj)
theorem VL.dsLow (h:VL W0 W n dp Y pb pm c P D B M) {j:Nat} (hj:j<n):∀q∈(D j).blocks,W0.heap.size≤q:=fun q hq=>h.ps.low (30+j) q (by rw [h.ds j hj];exact hq)
theorem VL.bIn (h:VL W0 W n dp Y pb pm c P D B M):B.B W:=h.ps.of h.bk
theorem VL.mIn (h:VL W0 W n dp Y pb pm c P D B M):M.In W:=h.ps.of h.mt
def setD (D:Nat→DS) (i:Nat) (s:DS) (j:Nat):DS:=if j=i then s else D j
theorem setD_at (D:Nat→DS) (i:Nat) (s:DS):setD D i s i=s:=if_pos rfl
theorem setD_ne (D:Nat→DS) {i j:Nat} (s:DS) (h:j≠i):setD D i s j=D j:=if_neg h
theorem VL.disk (h:VL W0 W n dp Y pb pm c P D B M) {i:Nat} (hi:i<n) {s2:DS} (hst:Step W W' (D i) s2) (hf:Fl 1048576 s2.abs [oF (Y i)]):VL W0 W' n dp Y pb pm c (setP P (30+i) (Part.ds s2)) (setD D i s2) B M:=by
 refine ⟨h.ps.turn (30+i) (Part.ds s2) hst.upd (fun q _ e=>by rw [h.ds i hi];exact e) hst.ins (fun q hq=>by rw [h.ds i hi];exact hst.foot q hq),fun j hj=>?_,fun j hj=>?_,fun j hj=>?_,by rw [setP_ne _ _ (by omega)];exact h.bk,h.bp,h.bs,h.bl,by rw [setP_ne _ _ (by omega)];exact h.mt,h.mp,h.ml⟩
 ·by_cases e:j=i
  ·subst e;rw [setP_at,setD_at]
  ·rw [setP_ne _ _ (by omega),setD_ne _ _ e];exact h.ds j hj
 ·by_cases e:j=i
  ·subst e;rw [setD_at,hst.p];exact h.dp j hj
  ·rw [setD_ne _ _ e];exact h.dp j hj
 ·by_cases e:j=i
  ·subst e;rw [setD_at];exact hf
  ·rw [setD_ne _ _ e];exact h.fl j hj
theorem VL.newDisk (h:VL W0 W n dp Y pb pm c P D B M) {s:DS} (hu:Upd (fun _=>False) W W') (hs:s.In W') (hn:∀q∈s.blocks,W.heap.size≤q) (hp:s.p=dp n) (hf:Fl 1048576 s.abs [oF (Y n)]):VL W0 W' (n+1) dp Y pb pm c (setP P (30+n) (Part.ds s)) (setD D n s) B M:=by
 refine ⟨h.ps.add (30+n) (Part.ds s) hu hs hn,fun j hj=>?_,fun j hj=>?_,fun j hj=>?_,by rw [setP_ne _ _ (by omega)];exact h.bk,h.bp,h.bs,h.bl,by rw [setP_ne _ _ (by omega)];exact h.mt,h.mp,h.ml⟩
 ·by_cases e:j=n
  ·subst e;rw [setP_at,setD_at]
  ·rw [setP_ne _ _ (by omega),setD_ne _ _ e];exact h.ds j (by omega)
 ·by_cases e:j=n
  ·subst e;rw [setD_at,hp]
  ·rw [setD_ne _ _ e];exact h.dp j (by omega)
 ·by_cases e:j=n
  ·subst e;rw [setD_at];exact hf
  ·rw [setD_ne _ _ e];exact h.fl j (by omega)
theorem VL.keepB (h:VL W0 W n dp Y pb pm c P D B M) {i:Nat} (hi:i≠2∧i≠3∧i<30) {v:Value} {bs:List UInt8} (hv:P i=Part.data v bs) (hn:bs.length≤1000000000) (hc:c≤1000) (hb:B.ls.length+1≤3*c) :
  Calls Tryz.prog 44 #[.pointer (some ⟨pb,0,none⟩),v] W fun e W'=>e=.returned (.tuple #[])∧∃B',B'.ls.length=B.ls.length+1∧VL W0 W' n dp Y pb pm c (setP (setP P i Part.none) 2 (Part.book B')) D B' M:=by
 have hd:DataIs W v bs:=h.ps.of hv
 have hno:∀q,v.ownBlock=some q→¬B.own q:=fun q e hq=>hi.1 (h.ps.one (i:=i) (j:=2) (q:=q) (by rw [hv];exact e) (by rw [h.bk];exact hq))
 rw [←h.bp]
 refine (keepB_any h.bIn hd hno hn (by omega)).mono ?_
 rintro e W' ⟨rfl,B',hk⟩
 obtain ⟨u,hls⟩:=hk.2
 have hd1:=h.set (i:=i) (p:=Part.none) hi (h.ps.drop i)
 have hks:∀q,(q=B.p∨B.lv.ownBlock=some q∨B.wv.ownBlock=some q)→B.own q:=fun q e=>by
  rcases e with e|e|e
  ·exact e ▸ ⟨_,KP.oP⟩
  ·exact ⟨_,KP.oL e⟩
  ·exact ⟨_,KP.oW e⟩
 have hps:=hd1.ps.step (X:=fun q=>v.ownBlock=some q) 2 (Part.book B') hk.1.upd (fun q _ e=>by rw [hd1.bk];exact hks q e) hk.1.ins (fun q hq=>by rw [hd1.bk];exact hk.1.foot q hq) (fun q e=>by
  have h1:(P i).own q:=by rw [hv];exact e
  refine ⟨h.ps.low i q h1,fun j hj=>?_⟩
  by_cases ej:j=i
  ·subst ej;rw [setP_at] at hj;exact hj
  ·rw [setP_ne _ _ ej] at hj;exact ej (h.ps.one hj h1))
 refine ⟨rfl,B',by rw [hls];simp,hps,fun j hj=>by rw [setP_ne _ _ (by omega)];exact hd1.ds j hj,h.dp,h.fl,setP_at _ _ _,hk.1.p.trans rfl,?_,by rw [hls];simp;omega,by rw [setP_ne _ _ (by omega)];exact hd1.mt,h.mp,h.ml⟩
 intro x hx
 rw [hls] at hx
 rcases List.mem_append.1 hx with hx|hx
 ·exact h.bs x hx
 ·obtain rfl:=List.mem_singleton.1 hx
  exact ⟨_,rfl,rfl⟩
theorem VL.keepM (h:VL W0 W n dp Y pb pm c P D B M) {i:Nat} (hi:i≠2∧i≠3∧i<30) {v:Value} {L:List MV} (hv:P i=Part.runs v L) (hnd:(keyBlocks L).Nodup) (hin:VerIn (verM L)∧L.length≤1000∧∀y∈L,y.m.first.length≤1000000000∧y.m.last.length≤1000000000) (hc:c≤1000) (hm:M.ls.length+1≤2*c) :
  Calls Tryz.prog 45 #[.pointer (some ⟨pm,0,none⟩),v] W fun e W'=>e=.returned (.tuple #[])∧∃M',M'.ls.length=M.ls.length+1∧VL W0 W' n dp Y pb pm c (setP (setP P i Part.none) 3 (Part.metas M')) D B M':=by
 have hd:RunsOwn W 0 v L:=h.ps.of hv
 have hno:∀q,(v.ownBlock=some q∨q∈keyBlocks L)→¬M.own q:=fun q e hq=>hi.2.1 (h.ps.one (i:=i) (j:=3) (q:=q) (by rw [hv];exact e) (by rw [h.mt];exact hq))
 rw [←h.mp]
 refine (keepM_any h.mIn hd hnd hin hno (by omega)).mono ?_
 rintro e W' ⟨rfl,M',hk⟩
 obtain ⟨uc,uo,hls⟩:=hk.ls
 have hd1:=h.set (i:=i) (p:=Part.none) hi (h.ps.drop i)
 have hks:∀q,(q=M.p∨M.lv.ownBlock=some q∨M.wv.ownBlock=some q)→M.own q:=fun q e=>by
  rcases e with e|e|e
  ·exact e ▸ ⟨_,KM.oP⟩
  ·exact ⟨_,KM.oL e⟩
  ·exact ⟨_,KM.oW e⟩
 have hps:=hd1.ps.step (X:=fun q=>v.ownBlock=some q∨q∈keyBlocks L) 3 (Part.metas M') hk.upd (fun q _ e=>by rw [hd1.mt];exact hks q e) hk.ins (fun q hq=>by rw [hd1.mt];exact hk.foot q hq) (fun q e=>by
  have h1:(P i).own q:=by rw [hv];exact e
  refine ⟨h.ps.low i q h1,fun j hj=>?_⟩
  by_cases ej:j=i
  ·subst ej;rw [setP_at] at hj;exact hj
  ·rw [setP_ne _ _ ej] at hj;exact ej (h.ps.one hj h1))
 exact ⟨rfl,M',by rw [hls];simp,hps,fun j hj=>by rw [setP_ne _ _ (by omega)];exact hd1.ds j hj,h.dp,h.fl,by rw [setP_ne _ _ (by omega)];exact hd1.bk,h.bp,h.bs,h.bl,setP_at _ _ _,hk.p.trans rfl,by rw [hls];simp;omega⟩
theorem VL.ptr (h:VL W0 W n dp Y pb pm c P D B M) {dp':Nat→Nat} (e:∀j,j<n→dp' j=dp j):VL W0 W n dp' Y pb pm c P D B M:=
 ⟨h.ps,h.ds,fun j hj=>(h.dp j hj).trans (e j hj).symm,h.fl,h.bk,h.bp,h.bs,h.bl,h.mt,h.mp,h.ml⟩
theorem VL.verAt (h:VL W0 W n dp Y pb pm c P D B M) {i j:Nat} {st rs:Value} {L:List MV} {x:VerA} (hi:P i=Part.data st x.state) (hj:P j=Part.runs rs L) (hx:x.runs=L.map MV.m) :
  VerAt W (.agg #[.int .i64 x.gen,.int .i64 x.flushed,.int .i64 x.next,.int .i64 x.low,.int .i64 x.clock,st,rs]) x:=by
 have h1:=verOf (a1:=x.gen) (a2:=x.flushed) (a3:=x.next) (a4:=x.low) (a5:=x.clock) (h.ps.of hi) (h.ps.of hj)
 rw [←hx] at h1
 exact h1
theorem VL.diskTold (h:VL W0 W n dp Y pb pm c P D B M) {i:Nat} (hi:i<n) {s2:DS} (hst:Step W W' (D i) s2) (hf:Fl 1048576 s2.abs [oF (Y i)]) (hb:s2.blocks=(D i).blocks) :
  VL W0 W' n dp Y pb pm c (setP P (30+i) (Part.ds s2)) (setD D i s2) B M∧∀q,W.heap.size≤q→W0.heap.size≤q∧∀t,¬(setP P (30+i) (Part.ds s2) t).own q:=by
 refine ⟨h.disk hi hst hf,fun q hq=>⟨(h.ps.fresh hq).1,fun t ht=>?_⟩⟩
 by_cases e:t=30+i
 ·subst e
  rw [setP_at] at ht
  have ht:q∈s2.blocks:=ht
  rw [hb] at ht
  have:=(h.dsIn hi).lt q ht
  omega
 ·rw [setP_ne _ _ e] at ht
  exact (h.ps.fresh hq).2 t ht
end
theorem Tryz.infoPtrDs:(Tryz.prog.info? 28).map (fun i=>(i.zero,i.size,i.bytes))=some (some (.pointer none),1,8):=by kernel_rfl
theorem rowDs:RowTy 94 28 1 8:=by
 obtain ⟨i0,hi,hz0,hz1,hz2⟩:=info_parts Tryz.infoPtrDs
 exact ⟨Tryz.underlying94,⟨i0,_,hi,hz0,hz1,hz2,rfl⟩,by decide,by decide⟩
def Part.row (v:Value) (n:Nat) (xs:List Value):Part:=⟨fun q=>v.ownBlock=some q,fun w=>SRow w 28 1 v n xs,fun _ _ _ h hu hn=>SRow.upd h hu hn,fun _ h q hq=>h.lt q hq⟩
def ptrs (dp:Nat→Nat) (n:Nat):List Value:=(List.range n).map fun j=>.pointer (some ⟨dp j,0,none⟩)
theorem ptrs_succ (dp:Nat→Nat) (n:Nat):ptrs dp (n+1)=ptrs dp n ++ [.pointer (some ⟨dp n,0,none⟩)]:=by unfold ptrs;rw [List.range_succ,List.map_append];rfl
theorem ptrs_same {dp dp':Nat→Nat} {n:Nat} (h:∀j,j<n→dp' j=dp j):ptrs dp' n=ptrs dp n:=by
 unfold ptrs
 exact List.map_congr_left (fun j hj=>by rw [h j (List.mem_range.1 hj)])
theorem ptrs_at {dp:Nat→Nat} {n k:Nat} (hk:k<n):(ptrs dp n)[k]? = some (.pointer (some ⟨dp k,0,none⟩)):=by unfold ptrs;simp [hk]
abbrev B0 (p:Nat):KP:=⟨p,.slice none 0 0,.slice none 0 0,[]⟩
abbrev M0 (p:Nat):KM:=⟨p,.slice none 0 0,.slice none 0 0,[]⟩
theorem kp_new {D R E:TypeId} {z:Nat} {w:World} {p:Nat} (h:w.heap[p]? = some (.cells #[.slice none 0 0,.slice none 0 0] D (0,0))):(B0 p).In D R E z w:=by
 refine ⟨h,SRow.nil _ _ _,SRow.nil _ _ _,fun i hi=>by simp at hi,fun i hi=>by simp at hi,fun i hi=>by simp at hi,⟨fun _=>0,fun L q hq=>?_⟩⟩
 rcases hq with ⟨rfl,-⟩|⟨-,e⟩|⟨-,e⟩|⟨i,hi,-⟩
 ·rfl
 ·cases e
 ·cases e
 ·simp at hi
theorem kp_own {p q:Nat} (h:(B0 p).own q):q=p:=by
 obtain ⟨L,⟨-,e⟩|⟨-,e⟩|⟨-,e⟩|⟨i,hi,-⟩⟩:=h
 ·exact e
 ·cases e
 ·cases e
 ·simp at hi
theorem km_new {w:World} {p:Nat} (h:w.heap[p]? = some (.cells #[.slice none 0 0,.slice none 0 0] 93 (0,0))):(M0 p).In w:=by
 refine ⟨h,SRow.nil _ _ _,SRow.nil _ _ _,fun i hi=>by simp at hi,fun i hi=>by simp at hi,fun i hi=>by simp at hi,fun i hi=>by simp at hi,⟨fun _=>0,fun L q hq=>?_⟩⟩
 rcases hq with ⟨rfl,-⟩|⟨-,e⟩|⟨-,e⟩|⟨i,hi,-⟩
 ·rfl
 ·cases e
 ·cases e
 ·simp at hi
theorem km_own {p q:Nat} (h:(M0 p).own q):q=p:=by
 obtain ⟨L,⟨-,e⟩|⟨-,e⟩|⟨-,e⟩|⟨i,hi,-⟩⟩:=h
 ·exact e
 ·cases e
 ·cases e
 ·simp at hi
section
variable {W0 W:World} {P:Nat→Part}
theorem VL.start (h:Parts W0 W P) (Y:Nat→VerA) (D:Nat→DS) (W1 W2:World) (hW1:W1=W.alloc (.cells #[.slice none 0 0,.slice none 0 0] 90)) (hW2:W2=W1.alloc (.cells #[.slice none 0 0,.slice none 0 0] 93)) :
  VL W0 W2 0 (fun _=>0) Y W.heap.size W1.heap.size 0 (setP (setP P 2 (Part.book (B0 W.heap.size))) 3 (Part.metas (M0 W1.heap.size))) D (B0 W.heap.size) (M0 W1.heap.size):=by
 have hu1:Upd (fun _=>False) W W1:=by rw [hW1];exact (Upd.refl _ _).alloc _
 have hu2:Upd (fun _=>False) W1 W2:=by rw [hW2];exact (Upd.refl _ _).alloc _
 have h1:=h.add 2 (Part.book (B0 W.heap.size)) hu1 (kp_new (by rw [hW1];exact heap_alloc_new W _)) (fun q hq=>by rw [kp_own hq];exact Nat.le_refl _)
 have h2:=h1.add 3 (Part.metas (M0 W1.heap.size)) hu2 (km_new (by rw [hW2];exact heap_alloc_new W1 _)) (fun q hq=>by rw [km_own hq];exact Nat.le_refl _)
 exact ⟨h2,fun j hj=>by omega,fun j hj=>by omega,fun j hj=>by omega,by rw [setP_ne _ _ (by decide),setP_at],rfl,fun x hx=>(by cases hx),Nat.le_refl _,setP_at _ _ _,rfl,Nat.le_refl _⟩
end
section
variable {W0 W W':World} {n:Nat} {dp:Nat→Nat} {Y:Nat→VerA} {pb pm c:Nat} {P:Nat→Part} {D:Nat→DS} {B:KP} {M:KM} {S:Nat→Prop}
theorem Parts.step2 (h:Parts W0 W P) (i j:Nat) (hij:i≠j) (p q:Part) (hu:Upd S W W') (hS:∀b,b<W.heap.size→S b→(P i).own b∨(P j).own b) (hp:p.ok W') (hq:q.ok W') (fp:∀b,p.own b→(P i).own b∨W.heap.size≤b) (fq:∀b,q.own b→(P j).own b∨W.heap.size≤b) (hpq:∀b,p.own b→¬q.own b):Parts W0 W' (setP (setP P i p) j q):=by
 obtain ⟨lab,hl⟩:=h.lab
 classical
 have hW:=h.upd.size
 have old:∀ {t},t≠i→t≠j→setP (setP P i p) j q t=P t:=fun h1 h2=>by rw [setP_ne _ _ h2,setP_ne _ _ h1]
 have ati:setP (setP P i p) j q i=p:=by rw [setP_ne _ _ hij,setP_at]
 have atj:setP (setP P i p) j q j=q:=setP_at _ _ _
 refine ⟨fun t=>?_,fun t b hb=>?_,⟨fun b=>if p.own b then i else if q.own b then j else lab b,fun t b hb=>?_⟩,h.upd.trans hu (fun b hb e=>by
  rcases hS b (by omega) e with e|e
  ·have:=h.low i b e;omega
  ·have:=h.low j b e;omega)⟩
 ·by_cases e1:t=i
  ·rw [e1,ati];exact hp
  ·by_cases e2:t=j
   ·rw [e2,atj];exact hq
   ·rw [old e1 e2]
    exact (P t).stay _ _ _ (h.ok t) hu (fun b hb e=>(hS b (h.lt hb) e).elim (fun e=>e1 (h.one hb e)) (fun e=>e2 (h.one hb e)))
 ·by_cases e1:t=i
  ·rw [e1,ati] at hb;exact (fp b hb).elim (h.low i b) (fun e=>by omega)
  ·by_cases e2:t=j
   ·rw [e2,atj] at hb;exact (fq b hb).elim (h.low j b) (fun e=>by omega)
   ·rw [old e1 e2] at hb;exact h.low t b hb
 ·show (if p.own b then i else if q.own b then j else lab b)=t
  by_cases e1:t=i
  ·rw [e1,ati] at hb;rw [if_pos hb,e1]
  ·by_cases e2:t=j
   ·rw [e2,atj] at hb
    rw [if_neg (fun e=>hpq b e hb),if_pos hb,e2]
   ·rw [old e1 e2] at hb
    have hlt:=h.lt hb
    rw [if_neg (fun e=>(fp b e).elim (fun e=>e1 (h.one hb e)) (fun e=>by omega)),if_neg (fun e=>(fq b e).elim (fun e=>e2 (h.one hb e)) (fun e=>by omega))]
    exact hl t b hb
theorem VL.swept (h:VL W0 W n dp Y pb pm c P D B M) {i m:Nat} (hi:i<n) (hm:m≠2∧m≠3∧m<30) {k k2:KP} {s2:DS} (hk:P m=Part.names k) (he:OrEnd W W' (D i) k (Y i) s2 k2):VL W0 W' n dp Y pb pm c (setP (setP P (30+i) (Part.ds s2)) m (Part.names k2)) (setD D i s2) B M:=by
 have hps:=h.ps.step2 (30+i) m (by omega) (Part.ds s2) (Part.names k2) he.upd (fun b hb e=>by rw [h.ds i hi,hk];exact e) he.ins he.bk (fun b hb=>by rw [h.ds i hi];exact he.foot b hb) (fun b hb=>by rw [hk];exact (he.own b hb).imp id (fun e=>e.1)) (fun b hb hq=>by
  rcases he.own b hq with e|e
  ·rcases he.foot b hb with e2|e2
   ·have:=h.ps.one (i:=30+i) (j:=m) (q:=b) (by rw [h.ds i hi];exact e2) (by rw [hk];exact e)
    omega
   ·have h1:b<W.heap.size:=h.ps.lt (i:=m) (by rw [hk];exact e)
    omega
  ·exact e.2 hb)
 refine ⟨hps,fun j hj=>?_,fun j hj=>?_,fun j hj=>?_,by rw [setP_ne _ _ (by omega),setP_ne _ _ (by omega)];exact h.bk,h.bp,h.bs,h.bl,by rw [setP_ne _ _ (by omega),setP_ne _ _ (by omega)];exact h.mt,h.mp,h.ml⟩
 ·by_cases e:j=i
  ·subst e;rw [setP_ne _ _ (by omega),setP_at,setD_at]
  ·rw [setP_ne _ _ (by omega),setP_ne _ _ (by omega),setD_ne _ _ e];exact h.ds j hj
 ·by_cases e:j=i
  ·subst e;rw [setD_at,he.p];exact h.dp j hj
  ·rw [setD_ne _ _ e];exact h.dp j hj
 ·by_cases e:j=i
  ·subst e;rw [setD_at];exact he.fl
  ·rw [setD_ne _ _ e];exact h.fl j hj
structure VD (W0 W:World) (n:Nat) (dp:Nat→Nat) (Y:Nat→VerA) (P:Nat→Part) (D:Nat→DS):Prop where
 ps:Parts W0 W P
 ds:∀j,j<n→P (30+j)=Part.ds (D j)
 dp:∀j,j<n→(D j).p=dp j
 fl:∀j,j<n→Fl 1048576 (D j).abs [oF (Y j)]
theorem VD.quiet (h:VD W0 W n dp Y P D) (hu:Upd (fun _=>False) W W'):VD W0 W' n dp Y P D:=⟨h.ps.quiet hu,h.ds,h.dp,h.fl⟩
theorem VD.dsIn (h:VD W0 W n dp Y P D) {j:Nat} (hj:j<n):(D j).In W:=h.ps.of (h.ds j hj)
theorem VD.dsLow (h:VD W0 W n dp Y P D) {j:Nat} (hj:j<n):∀q∈(D j).blocks,W0.heap.size≤q:=fun q hq=>h.ps.low (30+j) q (by rw [h.ds j hj];exact hq)
theorem VD.disk (h:VD W0 W n dp Y P D) {i:Nat} (hi:i<n) {s2:DS} (hst:Step W W' (D i) s2) (hf:Fl 1048576 s2.abs [oF (Y i)]):VD W0 W' n dp Y (setP P (30+i) (Part.ds s2)) (setD D i s2):=by
 refine ⟨h.ps.turn (30+i) (Part.ds s2) hst.upd (fun q _ e=>by rw [h.ds i hi];exact e) hst.ins (fun q hq=>by rw [h.ds i hi];exact hst.foot q hq),fun j hj=>?_,fun j hj=>?_,fun j hj=>?_⟩
 ·by_cases e:j=i
  ·subst e;rw [setP_at,setD_at]
  ·rw [setP_ne _ _ (by omega),setD_ne _ _ e];exact h.ds j hj
 ·by_cases e:j=i
  ·subst e;rw [setD_at,hst.p];exact h.dp j hj
  ·rw [setD_ne _ _ e];exact h.dp j hj
 ·by_cases e:j=i
  ·subst e;rw [setD_at];exact hf
  ·rw [setD_ne _ _ e];exact h.fl j hj
theorem VL.settle (h:VL W0 W n dp Y pb pm c P D B M) {m:Nat} (hm:m≠2∧m≠3∧m<30) {k:KP} (hk:P m=Part.names k) (hs:∀x∈k.ls,∃l:List ByteArray,x.xs=l.map Value.string∧x.ys=l.map Value.string) (hk1:k.ls.length≤1000) (hc:c≤100) :
  Calls Tryz.prog 47 #[.pointer (some ⟨pm,0,none⟩),.pointer (some ⟨pb,0,none⟩)] W fun e w1=>e=.returned (.bool true)∧
   Calls Tryz.prog 48 #[.pointer (some ⟨pb,0,none⟩)] w1 fun e w2=>e=.returned (.bool true)∧
    Calls Tryz.prog 49 #[.pointer (some ⟨k.p,0,none⟩)] w2 fun e w3=>e=.returned (.bool true)∧∃P':Nat→Part,(∀j,j≠2→j≠3→j≠m→P' j=P j)∧VD W0 w3 n dp Y P' D:=by
 have hbl:=h.bl;have hml:=h.ml
 have oM:∀ {q},M.own q→(P 3).own q:=fun e=>by rw [h.mt];exact e
 have oB:∀ {q},B.own q→(P 2).own q:=fun e=>by rw [h.bk];exact e
 have oK:∀ {q},k.own q→(P m).own q:=fun e=>by rw [hk];exact e
 rw [←h.mp,←h.bp]
 refine (settleM_any h.mIn h.bIn h.bs (fun q h1 h2=>by have:=h.ps.one (oM h1) (oB h2);omega) (by omega)).mono ?_
 rintro e w1 ⟨rfl,b',he⟩
 refine ⟨rfl,?_⟩
 rw [←he.p]
 refine (settleB_any he.book he.same (by have:=he.few;omega)).mono ?_
 rintro e w2 ⟨rfl,hu2⟩
 refine ⟨rfl,?_⟩
 have hU2:Upd (fun q=>M.own q∨B.own q) W w2:=he.upd.trans hu2 (fun q hq e=>by
  rcases he.foot q e with h1|h1|h1
  ·exact .inr h1
  ·exact .inl h1
  ·omega)
 have hkN:k.N W:=h.ps.of hk
 have hN2:k.N w2:=hkN.upd hU2 (fun q hq e=>by
  rcases e with e|e
  ·have:=h.ps.one (oK hq) (oM e);omega
  ·have:=h.ps.one (oK hq) (oB e);omega)
 refine (settleN_any hN2 hs (by omega)).mono ?_
 rintro e w3 ⟨rfl,hu3⟩
 refine ⟨rfl,fun t=>if t=2∨t=3∨t=m then Part.none else P t,fun j h2 h3 hm=>if_neg (by omega),?_⟩
 have hU3:Upd (fun q=>(P 3).own q∨(P 2).own q∨(P m).own q) W w3:=(hU2.mono (T:=fun q=>(P 3).own q∨(P 2).own q∨(P m).own q) (fun q _ e=>e.elim (fun e=>.inl (oM e)) (fun e=>.inr (.inl (oB e))))).trans hu3 (fun q _ e=>.inr (.inr (oK e)))
 have hneg:∀t,¬(t=2∨t=3∨t=m)→(if t=2∨t=3∨t=m then Part.none else P t)=P t:=fun t ht=>if_neg ht
 refine ⟨⟨fun t=>?_,fun t q hq=>?_,?_,h.ps.upd.trans hU3 (fun q hq e=>?_)⟩,fun j hj=>?_,h.dp,h.fl⟩
 ·show (if t=2∨t=3∨t=m then Part.none else P t).ok w3
  by_cases e:t=2∨t=3∨t=m
  ·rw [if_pos e];exact trivial
  ·rw [if_neg e]
   refine (P t).stay _ _ _ (h.ps.ok t) hU3 (fun q hq e2=>e ?_)
   rcases e2 with e2|e2|e2
   ·exact .inr (.inl (h.ps.one hq e2))
   ·exact .inl (h.ps.one hq e2)
   ·exact .inr (.inr (h.ps.one hq e2))
 ·by_cases e:t=2∨t=3∨t=m
  ·have hq:(if t=2∨t=3∨t=m then Part.none else P t).own q:=hq
   rw [if_pos e] at hq;exact hq.elim
  ·have hq:(if t=2∨t=3∨t=m then Part.none else P t).own q:=hq
   rw [if_neg e] at hq;exact h.ps.low t q hq
 ·obtain ⟨lab,hl⟩:=h.ps.lab
  refine ⟨lab,fun t q hq=>?_⟩
  by_cases e:t=2∨t=3∨t=m
  ·have hq:(if t=2∨t=3∨t=m then Part.none else P t).own q:=hq
   rw [if_pos e] at hq;exact hq.elim
  ·have hq:(if t=2∨t=3∨t=m then Part.none else P t).own q:=hq
   rw [if_neg e] at hq;exact hl t q hq
 ·rcases e with e|e|e
  ·have:=h.ps.low 3 q e;omega
  ·have:=h.ps.low 2 q e;omega
  ·have:=h.ps.low m q e;omega
 ·show (if 30+j=2∨30+j=3∨30+j=m then Part.none else P (30+j))=_
  rw [if_neg (by omega)]
  exact h.ds j hj
end
end Go.Proofs.YtgaidmohdhaonaaGreatDoor
