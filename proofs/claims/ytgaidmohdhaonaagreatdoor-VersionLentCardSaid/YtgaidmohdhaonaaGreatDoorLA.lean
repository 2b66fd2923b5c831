/-
  A world that has but drawn; stratalaw1's same, walked.
  Lists that were handed out and lie untouched, in memory: who owns what; what one more of them leaves. No walk stands here.
  Package stratalaw1's Book, walked: only, Keep, Untouched.
  Lists that were handed out are written full, then lengthened: what each round leaves. No walk stands here.
-/
import Derived.Test.YtgaidmohdhaonaaGreatDoorXA
import Derived.Test.YtgaidmohdhaonaaGreatDoorSG
import Derived.Test.YtgaidmohdhaonaaGreatDoorRA
import Derived.Test.YtgaidmohdhaonaaGreatDoorYG
set_option linter.unusedVariables false
set_option linter.unusedSimpArgs false
set_option linter.unnecessarySimpa false
set_option linter.unusedSectionVars false
set_option maxRecDepth 100000
set_option maxHeartbeats 1600000
namespace Go.Proofs.YtgaidmohdhaonaaGreatDoor
open Go Go.RowKit
def Drawn (w w':World):Prop:=Upd (fun _=>False) w w'∧w'.heap=w.heap
theorem Drawn.cell {w w':World} (h:Drawn w w') (a:Addr):w'.cell? a=w.cell? a:=World.cell?_of_block (by rw [h.2])
theorem Drawn.drewN {w w':World} (h:Drawn w w') (q:Nat):Drawn w (w'.drewN q):=⟨h.1.drewN q,h.2⟩
theorem set_mid {α:Type} (A:List α) (x y:α) (B:List α):(A++x :: B).set A.length y=A++y :: B:=by simp
theorem same1_any {w:World} {a b:Value} {xs bs:List UInt8} (ha:BytesAt w a xs) (hb:BytesAt w b bs) :
  Calls Tryz.prog 88 #[a,b] w fun e w'=>e=.returned (.bool (decide (xs=bs)))∧w'=w:=by
 have h1:=run_string_ofD ha
 have h2:=run_string_ofD hb
 have hq:=beq_toBAd xs bs
 obtain ⟨ao,ca,rfl,-,-⟩:=ha
 obtain ⟨bo,cb,rfl,-,-⟩:=hb
 go_enter Tryz.func88,Tryz.ntmps88
 go_wp2
 go_ret
 exact ⟨rfl,rfl⟩
theorem Tryz.infoStrL:(Tryz.prog.info? 9).map (fun i=>(i.zero,i.size,i.bytes))=some (some (.string ByteArray.empty),1,16):=by kernel_rfl
theorem Tryz.infoStrsL:(Tryz.prog.info? 73).map (fun i=>(i.zero,i.size,i.bytes))=some (some (.slice none 0 0),1,24):=by kernel_rfl
theorem Tryz.infoMetasL:(Tryz.prog.info? 23).map (fun i=>(i.zero,i.size,i.bytes))=some (some (.slice none 0 0),1,24):=by kernel_rfl
theorem Tryz.infoVerL:(Tryz.prog.info? 25).map (fun i=>(i.zero,i.size,i.bytes))=some (some (.agg #[.int .i64 0,.int .i64 0,.int .i64 0,.int .i64 0,.int .i64 0,.slice none 0 0,.slice none 0 0]),7,88):=by kernel_rfl
theorem rowStrs:RowTy 73 9 1 16:=by
 obtain ⟨i0,hi,hz0,hz1,hz2⟩:=info_parts Tryz.infoStrL
 exact ⟨Tryz.underlying73,⟨i0,_,hi,hz0,hz1,hz2,rfl⟩,by decide,by decide⟩
theorem rowStrss:RowTy 99 73 1 24:=by
 obtain ⟨i0,hi,hz0,hz1,hz2⟩:=info_parts Tryz.infoStrsL
 exact ⟨Tryz.underlying99,⟨i0,_,hi,hz0,hz1,hz2,rfl⟩,by decide,by decide⟩
theorem rowMetas:RowTy 23 48 8 96:=by
 obtain ⟨i0,hi,hz0,hz1,hz2⟩:=info_parts Tryz.infoMeta
 exact ⟨Tryz.underlying23,⟨i0,_,hi,hz0,hz1,hz2,rfl⟩,by decide,by decide⟩
theorem rowMetass:RowTy 45 23 1 24:=by
 obtain ⟨i0,hi,hz0,hz1,hz2⟩:=info_parts Tryz.infoMetasL
 exact ⟨Tryz.underlying45,⟨i0,_,hi,hz0,hz1,hz2,rfl⟩,by decide,by decide⟩
theorem rowVers:RowTy 76 25 7 88:=by
 obtain ⟨i0,hi,hz0,hz1,hz2⟩:=info_parts Tryz.infoVerL
 exact ⟨Tryz.underlying76,⟨i0,_,hi,hz0,hz1,hz2,rfl⟩,by decide,by decide⟩
structure KL where
 v:Value
 u:Value
 n:Nat
 xs:List Value
 ys:List Value
structure KP where
 p:Nat
 lv:Value
 wv:Value
 ls:List KL
def KP.ownAt (k:KP) (L q:Nat):Prop:=
 (L=0∧q=k.p)∨(L=1∧k.lv.ownBlock=some q)∨(L=2∧k.wv.ownBlock=some q)∨∃i,∃h:i<k.ls.length,(L=3+2*i∧k.ls[i].v.ownBlock=some q)∨(L=4+2*i∧k.ls[i].u.ownBlock=some q)
def KP.own (k:KP) (q:Nat):Prop:=∃L,k.ownAt L q
structure KP.In (D R E:TypeId) (z:Nat) (w:World) (k:KP):Prop where
 top:w.heap[k.p]? = some (.cells #[k.lv,k.wv] D (0,0))
 rowL:SRow w R 1 k.lv k.ls.length (k.ls.map KL.v)
 rowW:SRow w R 1 k.wv k.ls.length (k.ls.map KL.u)
 vs:∀i (h:i<k.ls.length),SRow w E z k.ls[i].v k.ls[i].n k.ls[i].xs
 us:∀i (h:i<k.ls.length),SRow w E z k.ls[i].u k.ls[i].n k.ls[i].ys
 short:∀i (h:i<k.ls.length),k.ls[i].n≤1000000000
 lab:∃lab:Nat→Nat,∀L q,k.ownAt L q→lab q=L
section
variable {D R E:TypeId} {z:Nat} {w w':World} {k:KP}
theorem KP.In.one (h:k.In D R E z w) {L L' q:Nat} (h1:k.ownAt L q) (h2:k.ownAt L' q):L=L':=by
 obtain ⟨lab,hl⟩:=h.lab
 exact (hl L q h1).symm.trans (hl L' q h2)
theorem KP.In.lt (h:k.In D R E z w) {q:Nat} (hq:k.own q):q<w.heap.size:=by
 obtain ⟨L,⟨-,rfl⟩|⟨-,hq⟩|⟨-,hq⟩|⟨i,hi,⟨-,hq⟩|⟨-,hq⟩⟩⟩:=hq
 ·exact lt_of_heap h.top
 ·exact (h.rowL.lt q hq)
 ·exact (h.rowW.lt q hq)
 ·exact ((h.vs i hi).lt q hq)
 ·exact ((h.us i hi).lt q hq)
theorem KP.oV {i q:Nat} (hi:i<k.ls.length) (h:k.ls[i].v.ownBlock=some q):k.ownAt (3+2*i) q:=.inr (.inr (.inr ⟨i,hi,.inl ⟨rfl,h⟩⟩))
theorem KP.oU {i q:Nat} (hi:i<k.ls.length) (h:k.ls[i].u.ownBlock=some q):k.ownAt (4+2*i) q:=.inr (.inr (.inr ⟨i,hi,.inr ⟨rfl,h⟩⟩))
theorem KP.oL {q:Nat} (h:k.lv.ownBlock=some q):k.ownAt 1 q:=.inr (.inl ⟨rfl,h⟩)
theorem KP.oW {q:Nat} (h:k.wv.ownBlock=some q):k.ownAt 2 q:=.inr (.inr (.inl ⟨rfl,h⟩))
theorem KP.oP:k.ownAt 0 k.p:=.inl ⟨rfl,rfl⟩
theorem KP.In.upd {S:Nat→Prop} (h:k.In D R E z w) (hu:Upd S w w') (hn:∀q,k.own q→¬S q):k.In D R E z w':=
 ⟨hu.get h.top (hn _ ⟨_,KP.oP⟩),SRow.upd h.rowL hu (fun q hq=>hn q ⟨_,KP.oL hq⟩),SRow.upd h.rowW hu (fun q hq=>hn q ⟨_,KP.oW hq⟩),
  fun i hi=>SRow.upd (h.vs i hi) hu (fun q hq=>hn q ⟨_,KP.oV hi hq⟩),fun i hi=>SRow.upd (h.us i hi) hu (fun q hq=>hn q ⟨_,KP.oU hi hq⟩),h.short,h.lab⟩
structure KStep (D R E:TypeId) (z:Nat) (w w':World) (k k':KP) (v:Value) (n:Nat) (xs:List Value):Prop where
 ins:k'.In D R E z w'
 p:k'.p=k.p
 ls:∃u ys,k'.ls=k.ls ++ [⟨v,u,n,xs,ys⟩]
 upd:Upd (fun q=>q=k.p∨k.lv.ownBlock=some q∨k.wv.ownBlock=some q) w w'
 foot:∀q,k'.own q→k.own q∨v.ownBlock=some q∨w.heap.size≤q
 lo:∀q,k'.lv.ownBlock=some q→k.lv.ownBlock=some q∨w.heap.size≤q
 wo:∀q,k'.wv.ownBlock=some q→k.wv.ownBlock=some q∨w.heap.size≤q
theorem KP.In.kept (h:k.In D R E z w) {v u lv' wv':Value} {n:Nat} {xs ys:List Value} {w1 w2 w3 w4:World} (hv:SRow w E z v n xs) (hvo:∀q,v.ownBlock=some q→¬k.own q) (hn:n≤1000000000)
  (u1:Upd (fun _=>False) w w1) (r2:SRow w2 R 1 lv' (k.ls.length+1) (k.ls.map KL.v ++ [v])) (u2:Upd (fun q=>k.lv.ownBlock=some q) w1 w2) (o2:∀q,lv'.ownBlock=some q→k.lv.ownBlock=some q∨w1.heap.size≤q)
  (u3:Upd (fun _=>False) (w2.setCell ⟨k.p,0,none⟩ lv') w3) (hu:SRow w3 E z u n ys) (hun:∀q,u.ownBlock=some q→w.heap.size≤q∧¬lv'.ownBlock=some q)
  (r4:SRow w4 R 1 wv' (k.ls.length+1) (k.ls.map KL.u ++ [u])) (u4:Upd (fun q=>k.wv.ownBlock=some q) w3 w4) (o4:∀q,wv'.ownBlock=some q→k.wv.ownBlock=some q∨w3.heap.size≤q) :
  KStep D R E z w (w4.setCell ⟨k.p,1,none⟩ wv') k ⟨k.p,lv',wv',k.ls ++ [⟨v,u,n,xs,ys⟩]⟩ v n xs:=by
 have hp:=lt_of_heap h.top
 have s1:=u1.size
 have s2:=u2.size
 have s3:w2.heap.size≤w3.heap.size:=by have:=u3.size;simpa using this
 have s4:=u4.size
 have pl:¬k.lv.ownBlock=some k.p:=fun e=>by have:=h.one KP.oP (KP.oL e);omega
 have pw:¬k.wv.ownBlock=some k.p:=fun e=>by have:=h.one KP.oP (KP.oW e);omega
 have lw:∀q,k.lv.ownBlock=some q→¬k.wv.ownBlock=some q:=fun q e1 e2=>by have:=h.one (KP.oL e1) (KP.oW e2);omega
 have lpl:∀q,lv'.ownBlock=some q→¬q=k.p:=fun q e1 e=>by
  subst e
  exact (o2 _ e1).elim pl (fun h=>by omega)
 have lpw:∀q,wv'.ownBlock=some q→¬q=k.p:=fun q e1 e=>by
  subst e
  exact (o4 _ e1).elim pw (fun h=>by omega)
 have hU:Upd (fun q=>q=k.p∨k.lv.ownBlock=some q∨k.wv.ownBlock=some q) w (w4.setCell ⟨k.p,1,none⟩ wv'):=by
  refine Upd.setCell (p:=⟨k.p,1,none⟩) ?_ (fun _=>.inl rfl) _
  refine Upd.trans (w:=w3) ?_ u4 (fun q _ e=>.inr (.inr e))
  refine Upd.trans (w:=w2.setCell ⟨k.p,0,none⟩ lv') ?_ u3 (fun _ _ e=>e.elim)
  refine Upd.setCell (p:=⟨k.p,0,none⟩) ?_ (fun _=>.inl rfl) _
  exact (u1.mono (fun _ _ e=>e.elim)).trans u2 (fun q _ e=>.inr (.inl e))
 have hout:∀L q,3≤L→k.ownAt L q→¬(q=k.p∨k.lv.ownBlock=some q∨k.wv.ownBlock=some q):=by
  intro L q hL hq e
  rcases e with rfl|e|e
  ·have:=h.one hq KP.oP;omega
  ·have:=h.one hq (KP.oL e);omega
  ·have:=h.one hq (KP.oW e);omega
 have hvout:∀q,v.ownBlock=some q→¬(q=k.p∨k.lv.ownBlock=some q∨k.wv.ownBlock=some q):=by
  intro q hq e
  rcases e with rfl|e|e
  ·exact hvo _ hq ⟨_,KP.oP⟩
  ·exact hvo _ hq ⟨_,KP.oL e⟩
  ·exact hvo _ hq ⟨_,KP.oW e⟩
 have hrow4:SRow (w4.setCell ⟨k.p,1,none⟩ wv') R 1 lv' (k.ls.length+1) (k.ls.map KL.v ++ [v]):=by
  have a1:=SRow.upd r2 (Upd.cell_only w2 k.p 0 lv') (fun q hq=>lpl q hq)
  have a2:=SRow.upd a1 u3 (fun _ _ e=>e)
  have a3:=SRow.upd a2 u4 (fun q hq e=>(o2 q hq).elim (fun e2=>lw q e2 e) (fun e2=>by have:=h.lt ⟨_,KP.oW e⟩;omega))
  exact SRow.upd a3 (Upd.cell_only w4 k.p 1 wv') (fun q hq=>lpl q hq)
 have hrow5:SRow (w4.setCell ⟨k.p,1,none⟩ wv') R 1 wv' (k.ls.length+1) (k.ls.map KL.u ++ [u]):=SRow.upd r4 (Upd.cell_only w4 k.p 1 wv') (fun q hq=>lpw q hq)
 have hu5:SRow (w4.setCell ⟨k.p,1,none⟩ wv') E z u n ys:=by
  have a1:=SRow.upd hu u4 (fun q hq e=>by have h1:=(hun q hq).1;have:=h.lt ⟨_,KP.oW e⟩;omega)
  exact SRow.upd a1 (Upd.cell_only w4 k.p 1 wv') (fun q hq e=>by have h1:=(hun q hq).1;omega)
 have hult:∀q,u.ownBlock=some q→q<w3.heap.size:=fun q hq=>(hu.lt q hq)
 have hfoot:∀L q,KP.ownAt ⟨k.p,lv',wv',k.ls ++ [⟨v,u,n,xs,ys⟩]⟩ L q→(L=1∧lv'.ownBlock=some q)∨(L=2∧wv'.ownBlock=some q)∨(L=3+2*k.ls.length∧v.ownBlock=some q)∨(L=4+2*k.ls.length∧u.ownBlock=some q)∨(k.ownAt L q∧L≠1∧L≠2):=by
  intro L q hq
  rcases hq with ⟨rfl,hq⟩|⟨rfl,hq⟩|⟨rfl,hq⟩|⟨i,hi,hq⟩
  ·exact .inr (.inr (.inr (.inr ⟨.inl ⟨rfl,hq⟩,by decide,by decide⟩)))
  ·exact .inl ⟨rfl,hq⟩
  ·exact .inr (.inl ⟨rfl,hq⟩)
  ·have hi2:i<k.ls.length+1:=by simpa using hi
   by_cases e:i<k.ls.length
   ·have he:(k.ls ++ [(⟨v,u,n,xs,ys⟩:KL)])[i]'(by simpa using hi2)=k.ls[i]:=List.getElem_append_left e
    have hq':(L=3+2*i∧((k.ls ++ [(⟨v,u,n,xs,ys⟩:KL)])[i]'(by simpa using hi2)).v.ownBlock=some q)∨(L=4+2*i∧((k.ls ++ [(⟨v,u,n,xs,ys⟩:KL)])[i]'(by simpa using hi2)).u.ownBlock=some q):=hq
    rw [he] at hq'
    exact .inr (.inr (.inr (.inr ⟨.inr (.inr (.inr ⟨i,e,hq'⟩)),by rcases hq' with ⟨e,_⟩|⟨e,_⟩<;>omega,by rcases hq' with ⟨e,_⟩|⟨e,_⟩<;>omega⟩)))
   ·obtain rfl:i=k.ls.length:=by omega
    have he:(k.ls ++ [(⟨v,u,n,xs,ys⟩:KL)])[k.ls.length]'(by simpa using hi2)=⟨v,u,n,xs,ys⟩:=by simp
    have hq':(L=3+2*k.ls.length∧((k.ls ++ [(⟨v,u,n,xs,ys⟩:KL)])[k.ls.length]'(by simpa using hi2)).v.ownBlock=some q)∨(L=4+2*k.ls.length∧((k.ls ++ [(⟨v,u,n,xs,ys⟩:KL)])[k.ls.length]'(by simpa using hi2)).u.ownBlock=some q):=hq
    rw [he] at hq'
    exact hq'.elim (fun h=>.inr (.inr (.inl h))) (fun h=>.inr (.inr (.inr (.inl h))))
 obtain ⟨lab,hlab⟩:=h.lab
 refine ⟨⟨?_,?_,?_,?_,?_,?_,⟨fun q=>if v.ownBlock=some q then 3+2*k.ls.length else if u.ownBlock=some q then 4+2*k.ls.length else if q<w.heap.size then lab q else if lv'.ownBlock=some q then 1 else 2,?_⟩⟩,rfl,⟨u,ys,rfl⟩,hU,?_,fun q e=>(o2 q e).imp id (fun e=>by omega),fun q e=>(o4 q e).imp id (fun e=>by omega)⟩
 ·have a1:=u1.get h.top (fun e=>e)
  have a2:=u2.get a1 pl
  have a3:=heap_setCell_at w2 k.p 0 _ _ lv' a2
  have a4:=u3.get a3 (fun e=>e)
  have a5:=u4.get a4 pw
  exact heap_setCell_at w4 k.p 1 _ _ wv' a5
 ·have e1:(k.ls ++ [(⟨v,u,n,xs,ys⟩:KL)]).length=k.ls.length+1:=by simp
  have e2:(k.ls ++ [(⟨v,u,n,xs,ys⟩:KL)]).map KL.v=k.ls.map KL.v ++ [v]:=by simp
  show SRow (w4.setCell ⟨k.p,1,none⟩ wv') R 1 lv' (k.ls ++ [(⟨v,u,n,xs,ys⟩:KL)]).length ((k.ls ++ [(⟨v,u,n,xs,ys⟩:KL)]).map KL.v)
  rw [e1,e2]
  exact hrow4
 ·have e1:(k.ls ++ [(⟨v,u,n,xs,ys⟩:KL)]).length=k.ls.length+1:=by simp
  have e2:(k.ls ++ [(⟨v,u,n,xs,ys⟩:KL)]).map KL.u=k.ls.map KL.u ++ [u]:=by simp
  show SRow (w4.setCell ⟨k.p,1,none⟩ wv') R 1 wv' (k.ls ++ [(⟨v,u,n,xs,ys⟩:KL)]).length ((k.ls ++ [(⟨v,u,n,xs,ys⟩:KL)]).map KL.u)
  rw [e1,e2]
  exact hrow5
 ·intro i hi
  show SRow (w4.setCell ⟨k.p,1,none⟩ wv') E z ((k.ls ++ [(⟨v,u,n,xs,ys⟩:KL)])[i]'hi).v ((k.ls ++ [(⟨v,u,n,xs,ys⟩:KL)])[i]'hi).n ((k.ls ++ [(⟨v,u,n,xs,ys⟩:KL)])[i]'hi).xs
  have hi2:i<k.ls.length+1:=by have h9:i<(k.ls ++ [(⟨v,u,n,xs,ys⟩:KL)]).length:=hi;simpa using h9
  by_cases e:i<k.ls.length
  ·rw [List.getElem_append_left e]
   exact SRow.upd (h.vs i e) hU (fun q hq=>hout _ q (by omega) (KP.oV e hq))
  ·obtain rfl:i=k.ls.length:=by omega
   rw [List.getElem_append_right (Nat.le_refl _)]
   simp only [Nat.sub_self,List.getElem_cons_zero]
   exact SRow.upd hv hU hvout
 ·intro i hi
  show SRow (w4.setCell ⟨k.p,1,none⟩ wv') E z ((k.ls ++ [(⟨v,u,n,xs,ys⟩:KL)])[i]'hi).u ((k.ls ++ [(⟨v,u,n,xs,ys⟩:KL)])[i]'hi).n ((k.ls ++ [(⟨v,u,n,xs,ys⟩:KL)])[i]'hi).ys
  have hi2:i<k.ls.length+1:=by have h9:i<(k.ls ++ [(⟨v,u,n,xs,ys⟩:KL)]).length:=hi;simpa using h9
  by_cases e:i<k.ls.length
  ·rw [List.getElem_append_left e]
   exact SRow.upd (h.us i e) hU (fun q hq=>hout _ q (by omega) (KP.oU e hq))
  ·obtain rfl:i=k.ls.length:=by omega
   rw [List.getElem_append_right (Nat.le_refl _)]
   simp only [Nat.sub_self,List.getElem_cons_zero]
   exact hu5
 ·intro i hi
  show ((k.ls ++ [(⟨v,u,n,xs,ys⟩:KL)])[i]'hi).n≤1000000000
  have hi2:i<k.ls.length+1:=by have h9:i<(k.ls ++ [(⟨v,u,n,xs,ys⟩:KL)]).length:=hi;simpa using h9
  by_cases e:i<k.ls.length
  ·rw [List.getElem_append_left e]
   exact h.short i e
  ·obtain rfl:i=k.ls.length:=by omega
   rw [List.getElem_append_right (Nat.le_refl _)]
   simp only [Nat.sub_self,List.getElem_cons_zero]
   exact hn
 ·intro L q hq
  show (if v.ownBlock=some q then 3+2*k.ls.length else if u.ownBlock=some q then 4+2*k.ls.length else if q<w.heap.size then lab q else if lv'.ownBlock=some q then 1 else 2)=L
  have hvlt:∀q,v.ownBlock=some q→q<w.heap.size:=fun q e=>(hv.lt q e)
  rcases hfoot L q hq with ⟨rfl,e⟩|⟨rfl,e⟩|⟨rfl,e⟩|⟨rfl,e⟩|⟨e,e1,e2⟩
  ·rcases o2 q e with e3|e3
   ·have h5:=h.lt ⟨_,KP.oL e3⟩
    rw [if_neg (fun e4=>hvo q e4 ⟨_,KP.oL e3⟩),if_neg (fun e4=>by have:=(hun q e4).1;omega),if_pos h5]
    exact hlab _ _ (KP.oL e3)
   ·rw [if_neg (fun e4=>by have:=hvlt q e4;omega),if_neg (fun e4=>(hun q e4).2 e),if_neg (by omega),if_pos e]
  ·rcases o4 q e with e3|e3
   ·have h5:=h.lt ⟨_,KP.oW e3⟩
    rw [if_neg (fun e4=>hvo q e4 ⟨_,KP.oW e3⟩),if_neg (fun e4=>by have:=(hun q e4).1;omega),if_pos h5]
    exact hlab _ _ (KP.oW e3)
   ·rw [if_neg (fun e4=>by have:=hvlt q e4;omega),if_neg (fun e4=>by have:=hult q e4;omega),if_neg (by omega),if_neg (fun e4=>by have:=(r2.lt q e4);omega)]
  ·rw [if_pos e]
  ·rw [if_neg (fun e4=>by have h1:=hvlt q e4;have h2:=(hun q e).1;omega),if_pos e]
  ·have h5:=h.lt ⟨_,e⟩
   rw [if_neg (fun e4=>hvo q e4 ⟨_,e⟩),if_neg (fun e4=>by have:=(hun q e4).1;omega),if_pos h5]
   exact hlab _ _ e
 ·rintro q ⟨L,hq⟩
  rcases hfoot L q hq with ⟨rfl,e⟩|⟨rfl,e⟩|⟨rfl,e⟩|⟨rfl,e⟩|⟨e,e1,e2⟩
  ·exact (o2 q e).elim (fun e=>.inl ⟨_,KP.oL e⟩) (fun e=>.inr (.inr (by omega)))
  ·exact (o4 q e).elim (fun e=>.inl ⟨_,KP.oW e⟩) (fun e=>.inr (.inr (by omega)))
  ·exact .inr (.inl e)
  ·exact .inr (.inr (hun q e).1)
  ·exact .inl ⟨_,e⟩
end
theorem only_any {w:World} {v:Value} {m:UInt8} (h:FullG w v [byteV m]) :
  Calls Tryz.prog 107 #[v,.int .u8 (m.toNat:Int)] w fun e w'=>e=.returned (.bool true)∧Drawn w w':=by
 obtain ⟨ao,n,c,rfl,hnc,hc,hf⟩:=h
 have HF:=hid hf
 clear hf
 go_enter Tryz.func107,Tryz.ntmps107
 go_wp2
 go_loopw [5] (fun i wr=>∃k:Nat,k≤n∧i=.int .i64 k∧Drawn w wr) (fun i _=>n-(intOf i).toNat)
 case atStart=>exact ⟨0,Nat.zero_le _,rfl,⟨Upd.refl _ _,rfl⟩⟩
 case round=>
  obtain ⟨k,hk,rfl,hdr⟩:=hrel
  have Ka:=hid hdr
  by_cases hlt:k<n
  ·obtain ⟨g,o,rfl,hg,hcell⟩:=HF.out k hlt
   have d0:=hcell 0 (by simp)
   have d:wr.cell? ⟨g,o+k,none⟩=some (.int .u8 (m.toNat:Int)):=by rw [hdr.cell];simpa [byteV] using d0
   have hgr:g<wr.heap.size:=by rw [hdr.2];exact hg
   clear hdr hcell d0
   go_wp2
   go_roundw
   case rel=>exact ⟨k+1,by omega,by go_num,Ka.out⟩
   case measure=>simp [intOf];omega
  ·obtain rfl:k=n:=by omega
   clear hdr
   go_wp2
   go_ret
   exact ⟨rfl,Ka.out⟩
def KP.B (w:World) (k:KP):Prop:=k.In 90 22 5 1 w
def KStepB (w w':World) (k k':KP) (v:Value) (n:Nat) (xs:List Value):Prop:=KStep 90 22 5 1 w w' k k' v n xs∧∃u,k'.ls=k.ls ++ [⟨v,u,n,xs,xs⟩]
theorem SRow.one {w:World} {z n:Nat} {E:TypeId} {v:Value} {xs:List Value} (h:SRow w E z v n xs):v.oneCell'=true:=by
 obtain ⟨ao,c,rfl,-⟩:=SRow.slice h
 rfl
theorem keepB_any {w:World} {k:KP} {v:Value} {bs:List UInt8} (hk:k.B w) (hv:DataIs w v bs) (hvo:∀q,v.ownBlock=some q→¬k.own q) (hn:bs.length≤1000000000) (hN:k.ls.length≤1000000) :
  Calls Tryz.prog 44 #[.pointer (some ⟨k.p,0,none⟩),v] w fun e w'=>e=.returned (.tuple #[])∧∃k',KStepB w w' k k' v bs.length (bs.map byteV):=by
 have h1:∀u∈bs.map byteV,u.oneCell'=true:=by intro u hu;obtain ⟨b,_,rfl⟩:=List.mem_map.1 hu;rfl
 have hvr:=SRow.of_data hv
 obtain ⟨u,w1,hrun1,r1,u1,o1⟩:=rowBytes.join (w:=w) (SRow.nil w 5 1) hvr h1 (by omega) 22
 rw [List.nil_append] at r1
 have u1f:Upd (fun _=>False) w w1:=u1.mono (fun q _ e=>by cases e)
 have o1f:∀q,u.ownBlock=some q→w.heap.size≤q:=fun q e=>(o1 q e).resolve_left (fun e=>by cases e)
 have hk1:k.B w1:=hk.upd u1f (fun _ _ e=>e)
 obtain ⟨lv',w2,hrun2,r2,u2,o2,-⟩:=rowLists.push (w:=w1) (M:=[v]) hk1.rowL rfl (fun x hx=>by simp at hx;subst hx;exact SRow.one hvr) (by omega) 43
 have hp:=lt_of_heap hk.top
 have pl:¬k.lv.ownBlock=some k.p:=fun e=>by have:=hk.one KP.oP (KP.oL e);omega
 have pw:¬k.wv.ownBlock=some k.p:=fun e=>by have:=hk.one KP.oP (KP.oW e);omega
 have lw:∀q,k.wv.ownBlock=some q→¬k.lv.ownBlock=some q:=fun q e1 e2=>by have:=hk.one (KP.oL e2) (KP.oW e1);omega
 have t2:=u2.get hk1.top pl
 have t3:=heap_setCell_at w2 k.p 0 _ _ lv' t2
 have w3r:SRow (w2.setCell ⟨k.p,0,none⟩ lv') 22 1 k.wv k.ls.length (k.ls.map KL.u):=SRow.upd (SRow.upd hk1.rowW u2 (fun q e=>lw q e)) (Upd.cell_only w2 k.p 0 lv') (fun q e e2=>pw (e2 ▸ e))
 have hu3:SRow (w2.setCell ⟨k.p,0,none⟩ lv') 5 1 u (0+bs.length) (bs.map byteV):=SRow.upd (SRow.upd r1 u2 (fun q e e2=>by have h1:=o1f q e;have:=hk.lt ⟨_,KP.oL e2⟩;omega)) (Upd.cell_only w2 k.p 0 lv') (fun q e e2=>by have h1:=o1f q e;omega)
 obtain ⟨wv',w4,hrun4,r4,u4,o4,-⟩:=rowLists.push (w:=w2.setCell ⟨k.p,0,none⟩ lv') (M:=[u]) w3r rfl (fun x hx=>by simp at hx;subst hx;exact SRow.one r1) (by omega) 43
 rw [Nat.zero_add] at hu3
 have hfin:=hk.kept hvr hvo hn u1f r2 u2 o2 (Upd.refl _ _) hu3 (fun q e=>⟨o1f q e,fun e2=>by
  have h5:=(r1.lt q e)
  rcases o2 q e2 with e3|e3
  ·have h4:=o1f q e;have:=hk.lt ⟨_,KP.oL e3⟩;omega
  ·omega⟩) r4 u4 o4
 have t4:=u4.get t3 pw
 obtain ⟨va,vc,hvs,-,-,-⟩:=SRow.slice hvr
 obtain ⟨ua,uc,hus,-,-,-⟩:=SRow.slice r1
 rw [Nat.zero_add] at hus
 obtain ⟨la,lc,hls,hl1,hl2,-⟩:=SRow.slice hk.rowL
 obtain ⟨wa,wc,hws,hw1,hw2,-⟩:=SRow.slice hk.rowW
 obtain ⟨la2,lc2,hls2,-,-,-⟩:=SRow.slice r2
 obtain ⟨wa2,wc2,hws2,-,-,-⟩:=SRow.slice r4
 obtain ⟨N,hNN⟩:∃N,N=k.ls.length:=⟨_,rfl⟩
 obtain ⟨n,hnn⟩:∃n,n=bs.length:=⟨_,rfl⟩
 rw [←hNN] at hls hws hls2 hws2 hl1 hw1 hN
 rw [←hnn] at hvs hus hn hfin
 obtain ⟨N2,hN2⟩:∃N2,N2=N+1:=⟨_,rfl⟩
 rw [←hN2] at hls2 hws2
 obtain ⟨p,hpp⟩:∃p,p=k.p:=⟨_,rfl⟩
 have c0:w1.cell? ⟨p,0,none⟩=some (.slice la N lc):=by rw [hpp,cell_of_row w1 _ 0 _ _ _ hk1.top,←hls];rfl
 have c1:(w2.setCell ⟨k.p,0,none⟩ lv').cell? ⟨p,1,none⟩=some (.slice wa N wc):=by rw [hpp,cell_of_row _ _ 1 _ _ _ t3,←hws];rfl
 have f0:w2.frozen? ⟨p,0,none⟩=false:=by rw [hpp];exact frozen_of_row _ _ _ _ _ t2
 have f1:w4.frozen? ⟨p,1,none⟩=false:=by rw [hpp];exact frozen_of_row _ _ _ _ _ t4
 have d0:w2.cell? ⟨p,0,none⟩=some (.slice la N lc):=by rw [hpp,cell_of_row _ _ 0 _ _ _ t2,←hls];rfl
 have d1:w4.cell? ⟨p,1,none⟩=some (.slice wa N wc):=by rw [hpp,cell_of_row _ _ 1 _ _ _ t4,←hws];rfl
 have hp1:p<w1.heap.size:=by rw [hpp];exact lt_of_heap hk1.top
 have hp2:p<w2.heap.size:=by rw [hpp];exact lt_of_heap t2
 have hp4:p<w4.heap.size:=by rw [hpp];exact lt_of_heap t4
 rw [←hpp] at hrun4 hfin c1⊢
 rw [hvs] at hrun1 hrun2 hfin⊢
 rw [hus] at hrun1 hrun4
 rw [hls] at hrun2
 rw [hls2] at hrun2 hrun4 hfin c1
 rw [hws] at hrun4
 rw [hws2] at hrun4 hfin
 obtain ⟨w3,hw3⟩:∃w3,w3=w2.setCell ⟨p,0,none⟩ (.slice la2 N2 lc2):=⟨_,rfl⟩
 rw [←hw3] at hrun4 c1
 have hp3:p<w3.heap.size:=by rw [hw3];simpa using hp2
 have hrun2':(Builtin.append_ #[43,43] 43 #[.slice la N lc,.slice (some ⟨w1.heap.size,0,none⟩) 1 1]).run Tryz.prog (w1.alloc (.cells #[.slice va n vc] 22))=.ok (.slice la2 N2 lc2) w2:=hrun2
 have hrun4':(Builtin.append_ #[43,43] 43 #[.slice wa N wc,.slice (some ⟨w3.heap.size,0,none⟩) 1 1]).run Tryz.prog (w3.alloc (.cells #[.slice ua n uc] 22))=.ok (.slice wa2 N2 wc2) w4:=hrun4
 have Kb:=hid hrun1;have Kc:=hid hrun2';have Kd:=hid hrun4';have Ke:=hid hw3;have Ka:=hid hfin;have Kf:=hid hnn
 clear hrun1 hrun2 hrun2' hrun4 hrun4' hfin hw3 hk hv hvo hn hN h1 hvr r1 u1 o1 u1f o1f hk1 r2 u2 o2 pl pw lw t2 t3 w3r hu3 r4 u4 o4 t4 hvs hus hls hws hls2 hws2 hNN hnn hN2 hpp hp
 go_enter Tryz.func44,Tryz.ntmps44
 go_upto_region 2 with (at_builtin;refine wpList_append_run rfl _ _ _ rfl rfl rfl Kb.out ?_)
 go_upto_region 3 with (at_builtin;refine wpList_append_run rfl _ _ _ rfl rfl rfl Kc.out ?_)
 rw [←Ke.out]
 go_wp2_with (at_builtin;refine wpList_append_run rfl _ _ _ rfl rfl rfl Kd.out ?_)
 go_end0
 rw [←Kf.out]
 exact ⟨rfl,_,Ka.out,_,rfl⟩
theorem untouchedB_any {w:World} {k:KP} (hk:k.B w) (heq:∀x∈k.ls,∃bs:List UInt8,x.xs=bs.map byteV∧x.ys=bs.map byteV) :
  Calls Tryz.prog 106 #[.pointer (some ⟨k.p,0,none⟩)] w fun e w'=>e=.returned (.bool true)∧Drawn w w':=by
 obtain ⟨la,lc,hls,hl1,hl2,-⟩:=SRow.slice hk.rowL
 obtain ⟨wa,wc,hws,hw1,hw2,-⟩:=SRow.slice hk.rowW
 have hp:=lt_of_heap hk.top
 have c0:w.cell? ⟨k.p,0,none⟩=some (.slice la k.ls.length lc):=by rw [cell_of_row w _ 0 _ _ _ hk.top,←hls];rfl
 have c1:w.cell? ⟨k.p,1,none⟩=some (.slice wa k.ls.length wc):=by rw [cell_of_row w _ 1 _ _ _ hk.top,←hws];rfl
 have hrow:∀i,i<k.ls.length→∃g h va n vc ua uc bs,la=some ⟨g,0,none⟩∧wa=some ⟨h,0,none⟩∧g<w.heap.size∧h<w.heap.size∧w.cell? ⟨g,i,none⟩=some (.slice va n vc)∧w.cell? ⟨h,i,none⟩=some (.slice ua n uc)∧BytesAt w (.slice va n vc) bs∧BytesAt w (.slice ua n uc) bs:=by
  intro i hi
  obtain ⟨bs,e1,e2⟩:=heq k.ls[i] (List.getElem_mem hi)
  have a1:=hk.vs i hi
  have a2:=hk.us i hi
  rw [e1] at a1
  rw [e2] at a2
  obtain ⟨va,vc,hv,-⟩:=SRow.slice a1
  obtain ⟨ua,uc,hu,-⟩:=SRow.slice a2
  obtain ⟨g,c',q1,q2,q3⟩:=SRow.cell hk.rowL (k:=i) (u:=k.ls[i].v) (by simp [hi])
  obtain ⟨h,c'',s1,s2,s3⟩:=SRow.cell hk.rowW (k:=i) (u:=k.ls[i].u) (by simp [hi])
  rw [hls] at q1
  injection q1 with q1
  rw [hws] at s1
  injection s1 with s1
  refine ⟨g,h,va,k.ls[i].n,vc,ua,uc,bs,q1,s1,q2,s2,by rw [q3,hv],by rw [s3,hu],?_,?_⟩
  ·rw [←hv];exact a1.data.bytes
  ·rw [←hu];exact a2.data.bytes
 have Kb:=hid hrow
 obtain ⟨N,hN⟩:∃N,N=k.ls.length:=⟨_,rfl⟩
 have HN:=hid hN
 rw [←hN] at c0 c1 hl1 hw1
 clear hrow hk heq hls hws hN
 go_enter Tryz.func106,Tryz.ntmps106
 go_wp2
 go_loopw [3] (fun i wr=>∃j:Nat,j≤N∧i=.int .i64 j∧Drawn w wr) (fun i _=>N-(intOf i).toNat)
 case atStart=>exact ⟨0,Nat.zero_le _,rfl,⟨Upd.refl _ _,rfl⟩⟩
 case round=>
  obtain ⟨j,hj,rfl,hdr⟩:=hrel
  have Ka:=hid hdr
  have c0':wr.cell? ⟨k.p,0,none⟩=some (.slice la N lc):=(hdr.cell _).trans c0
  have c1':wr.cell? ⟨k.p,1,none⟩=some (.slice wa N wc):=(hdr.cell _).trans c1
  have hpr:k.p<wr.heap.size:=by rw [hdr.2];exact hp
  by_cases hlt:j<N
  ·obtain ⟨g,h,va,n,vc,ua,uc,bs,rfl,rfl,hg,hh,d0,d1,b0,b1⟩:=Kb.out j (by have:=HN.out;omega)
   have d0':wr.cell? ⟨g,j,none⟩=some (.slice va n vc):=(hdr.cell _).trans d0
   have d1':wr.cell? ⟨h,j,none⟩=some (.slice ua n uc):=(hdr.cell _).trans d1
   have hgr:g<wr.heap.size:=by rw [hdr.2];exact hg
   have hhr:h<wr.heap.size:=by rw [hdr.2];exact hh
   have HS:=hid (show ∀q,Calls Tryz.prog 88 #[.slice va n vc,.slice ua n uc] (wr.drewN q) fun e w'=>e=.returned (.bool true)∧w'=wr.drewN q from fun q=>by
    have a1:BytesAt (wr.drewN q) (.slice va n vc) bs:=by
     obtain ⟨x1,x2,x3,x4,x5⟩:=b0
     exact ⟨x1,x2,x3,x4,fun a ha j u hu=>((Ka.out.drewN q).cell _).trans (x5 a ha j u hu)⟩
    have a2:BytesAt (wr.drewN q) (.slice ua n uc) bs:=by
     obtain ⟨x1,x2,x3,x4,x5⟩:=b1
     exact ⟨x1,x2,x3,x4,fun a ha j u hu=>((Ka.out.drewN q).cell _).trans (x5 a ha j u hu)⟩
    refine (same1_any a1 a2).mono ?_
    rintro e w' ⟨rfl,rfl⟩
    exact ⟨by simp,rfl⟩)
   clear hdr d0 d1 b0 b1
   go_wp2_with fail
   go_quiet ((go_at_call 88;exact Calls.quiet_of_same (HS.out _)))
   go_wp2
   go_roundw
   case rel=>exact ⟨j+1,by omega,by go_num,Ka.out.drewN _⟩
   case measure=>simp [intOf];omega
  ·obtain rfl:j=N:=by omega
   clear hdr
   go_wp2
   go_ret
   exact ⟨rfl,Ka.out⟩
def KP.vown (k:KP) (q:Nat):Prop:=∃i,∃h:i<k.ls.length,k.ls[i].v.ownBlock=some q
section
variable {D R E:TypeId} {z:Nat} {w w0 wr w':World} {k:KP} {M:Nat→List Value}
theorem KP.In.vOut (h:k.In D R E z w) {q:Nat} (hq:k.vown q):¬q=k.p∧¬k.lv.ownBlock=some q∧¬k.wv.ownBlock=some q∧q<w.heap.size:=by
 obtain ⟨i,hi,e⟩:=hq
 refine ⟨fun e2=>?_,fun e2=>?_,fun e2=>?_,h.lt ⟨_,KP.oV hi e⟩⟩
 ·subst e2;have:=h.one KP.oP (KP.oV hi e);omega
 ·have:=h.one (KP.oL e2) (KP.oV hi e);omega
 ·have:=h.one (KP.oW e2) (KP.oV hi e);omega
theorem KP.In.vv (h:k.In D R E z w) {i t q:Nat} (hi:i<k.ls.length) (ht:t<k.ls.length) (e1:k.ls[i].v.ownBlock=some q) (e2:k.ls[t].v.ownBlock=some q):i=t:=by
 have:=h.one (KP.oV hi e1) (KP.oV ht e2)
 omega
theorem KP.In.tops (h:k.In D R E z w) {S:Nat→Prop} (hu:Upd S w wr) (hS:∀q,q<w.heap.size→S q→k.vown q):wr.heap[k.p]? = some (.cells #[k.lv,k.wv] D (0,0))∧SRow wr R 1 k.lv k.ls.length (k.ls.map KL.v):=
 ⟨hu.get h.top (fun e=>(h.vOut (hS _ (lt_of_heap h.top) e)).1 rfl),SRow.upd h.rowL hu (fun q hq e=>(h.vOut (hS q (h.rowL.lt q hq) e)).2.1 hq)⟩
structure Marked (E:TypeId) (z:Nat) (w0 wr:World) (k:KP) (M:Nat→List Value) (i:Nat):Prop where
 done:∀t (h:t<k.ls.length),t<i→SRow wr E z k.ls[t].v k.ls[t].n (rep k.ls[t].n (M t))
 rest:∀t (h:t<k.ls.length),i≤t→SRow wr E z k.ls[t].v k.ls[t].n k.ls[t].xs
 upd:Upd k.vown w0 wr
theorem KP.In.marked0 (h:k.In D R E z w0) (hu:Upd (fun _=>False) w0 wr):Marked E z w0 wr k M 0:=
 ⟨fun t _ ht=>by omega,fun t ht _=>SRow.upd (h.vs t ht) hu (fun _ _ e=>e),hu.mono (fun _ _ e=>e.elim)⟩
theorem Marked.step {i:Nat} (hm:Marked E z w0 wr k M i) (h:k.In D R E z w0) (hi:i<k.ls.length) (hu:Upd (fun q=>k.ls[i].v.ownBlock=some q) wr w') (hr:SRow w' E z k.ls[i].v k.ls[i].n (rep k.ls[i].n (M i))):Marked E z w0 w' k M (i+1):=by
 refine ⟨fun t ht hlt=>?_,fun t ht hle=>?_,hm.upd.trans hu (fun q _ e=>⟨i,hi,e⟩)⟩
 ·by_cases e:t=i
  ·subst e;exact hr
  ·exact SRow.upd (hm.done t ht (by omega)) hu (fun q e1 e2=>e (h.vv ht hi e1 e2))
 ·exact SRow.upd (hm.rest t ht (by omega)) hu (fun q e1 e2=>by have:=h.vv ht hi e1 e2;omega)
structure Grown (R E:TypeId) (z:Nat) (w0 wr:World) (k:KP) (M:Nat→List Value) (i:Nat) (mv:Value) (gs:List Value):Prop where
 len:gs.length=i
 row:SRow wr R 1 mv i gs
 new:∀q,mv.ownBlock=some q→w0.heap.size≤q
 full:∀t (h:t<k.ls.length),t<i→FullG wr k.ls[t].v (M t)
 gfull:∀t (h:t<gs.length),FullG wr gs[t] (M t)
 gown:∀t (h:t<gs.length) (h2:t<k.ls.length) q,gs[t].ownBlock=some q→(k.ls[t].v.ownBlock=some q∨w0.heap.size≤q)∧¬mv.ownBlock=some q∧q<wr.heap.size
 rest:∀t (h:t<k.ls.length),i≤t→SRow wr E z k.ls[t].v k.ls[t].n (rep k.ls[t].n (M t))
 upd:Upd k.vown w0 wr
theorem Marked.grown (hm:Marked E z w0 wr k M k.ls.length):Grown R E z w0 wr k M 0 (.slice none 0 0) []:=
 ⟨rfl,SRow.nil _ _ _,fun q e=>(by cases e),fun t _ ht=>by omega,fun t h=>by simp at h,fun t h=>by simp at h,fun t ht _=>hm.done t ht ht,hm.upd⟩
theorem Grown.step {i:Nat} {mv gv mv':Value} {gs:List Value} {w1 w2:World} (hg:Grown R E z w0 wr k M i mv gs) (h:k.In D R E z w0) (hi:i<k.ls.length) (u1:Upd (fun q=>k.ls[i].v.ownBlock=some q) wr w1) (f1:FullG w1 k.ls[i].v (M i)) (f2:FullG w1 gv (M i))
  (o1:∀q,gv.ownBlock=some q→(k.ls[i].v.ownBlock=some q∨wr.heap.size≤q)∧q<w1.heap.size)
  (r2:SRow w2 R 1 mv' (i+1) (gs ++ [gv])) (u2:Upd (fun q=>mv.ownBlock=some q) w1 w2) (o2:∀q,mv'.ownBlock=some q→mv.ownBlock=some q∨w1.heap.size≤q):Grown R E z w0 w2 k M (i+1) mv' (gs ++ [gv]):=by
 have s0:=hg.upd.size
 have s1:=u1.size
 have s2:=u2.size
 have hmv:∀q,mv.ownBlock=some q→w0.heap.size≤q∧q<wr.heap.size:=fun q e=>⟨hg.new q e,(hg.row.lt q e)⟩
 have hU:Upd (fun q=>k.ls[i].v.ownBlock=some q∨mv.ownBlock=some q) wr w2:=(u1.mono (fun _ _ e=>.inl e)).trans u2 (fun _ _ e=>.inr e)
 have hvm:∀t (ht:t<k.ls.length) q,k.ls[t].v.ownBlock=some q→¬mv.ownBlock=some q:=fun t ht q e e2=>by
  have h1:=(hmv q e2).1
  have h2:=h.lt ⟨_,KP.oV ht e⟩
  omega
 have hgm:∀q,gv.ownBlock=some q→¬mv.ownBlock=some q:=fun q e e2=>by
  rcases (o1 q e).1 with e3|e3
  ·exact hvm i hi q e3 e2
  ·have:=(hmv q e2).2;omega
 refine ⟨by simp [hg.len],r2,fun q e=>?_,fun t ht hlt=>?_,fun t ht=>?_,fun t ht ht2 q e=>?_,fun t ht hle=>?_,?_⟩
 ·exact (o2 q e).elim (hg.new q) (fun e=>by omega)
 ·by_cases e:t=i
  ·subst e
   exact f1.upd u2 (fun q e=>hvm t ht q e)
  ·exact (hg.full t ht (by omega)).upd hU (fun q e1 e2=>e2.elim (fun e2=>e (h.vv ht hi e1 e2)) (fun e2=>hvm t ht q e1 e2))
 ·by_cases e:t<gs.length
  ·rw [List.getElem_append_left e]
   have hti:t<k.ls.length:=by have:=hg.len;omega
   refine (hg.gfull t e).upd hU (fun q e1 e2=>?_)
   obtain ⟨a1,a2,a3⟩:=hg.gown t e hti q e1
   rcases e2 with e2|e2
   ·rcases a1 with a1|a1
    ·have:=h.vv hti hi a1 e2;have:=hg.len;omega
    ·have:=h.lt ⟨_,KP.oV hi e2⟩;omega
   ·exact a2 e2
  ·obtain rfl:t=gs.length:=by simp at ht;omega
   rw [List.getElem_append_right (Nat.le_refl _)]
   simp only [Nat.sub_self,List.getElem_cons_zero]
   rw [show M gs.length=M i from by rw [hg.len]]
   exact f2.upd u2 hgm
 ·by_cases e1:t<gs.length
  ·rw [List.getElem_append_left e1] at e
   obtain ⟨a1,a2,a3⟩:=hg.gown t e1 ht2 q e
   refine ⟨a1,fun e2=>?_,by omega⟩
   exact (o2 q e2).elim a2 (fun e3=>by omega)
  ·obtain rfl:t=gs.length:=by simp at ht;omega
   rw [List.getElem_append_right (Nat.le_refl _)] at e
   simp only [Nat.sub_self,List.getElem_cons_zero] at e
   have hti:gs.length=i:=hg.len
   refine ⟨?_,fun e2=>?_,by have:=(o1 q e).2;omega⟩
   ·rcases (o1 q e).1 with e3|e3
    ·left
     simp only [hti]
     exact e3
    ·right;omega
   ·rcases o2 q e2 with e3|e3
    ·exact hgm q e e3
    ·have:=(o1 q e).2;omega
 ·exact SRow.upd (hg.rest t ht (by omega)) hU (fun q e1 e2=>e2.elim (fun e2=>by have:=h.vv ht hi e1 e2;omega) (fun e2=>hvm t ht q e1 e2))
 ·exact hg.upd.trans hU (fun q hq e=>e.elim (fun e=>⟨i,hi,e⟩) (fun e=>by have:=(hmv q e).1;omega))
end
theorem rep_set {xs M:List Value} {n c:Nat} {u:Value} (hx:xs.length=n) (hc:c<n) (hM:M=[u]):(rep c M++xs.drop (c*1)).set c u=rep (c+1) M++xs.drop ((c+1)*1):=by
 subst hM
 simp only [Nat.mul_one]
 rw [rep_succ,List.drop_eq_getElem_cons (by omega:c<xs.length)]
 have h:=set_mid (rep c [u]) xs[c] u (xs.drop (c+1))
 rw [rep_length,List.length_singleton,Nat.mul_one] at h
 rw [h,List.append_assoc]
 rfl
section
variable {D R E:TypeId} {z:Nat} {w wr:World} {k:KP}
theorem KP.In.rowAt (h:k.In D R E z w):∃ga la lc,k.lv=.slice la k.ls.length lc∧k.ls.length≤lc∧lc≤9223372036854775807∧(0<k.ls.length→la=some ⟨ga,0,none⟩)∧
  ∀(S:Nat→Prop) wr,Upd S w wr→(∀q,q<w.heap.size→S q→k.vown q)→wr.cell? ⟨k.p,0,none⟩=some (.slice la k.ls.length lc)∧k.p<wr.heap.size∧∀j (hj:j<k.ls.length),ga<wr.heap.size∧wr.cell? ⟨ga,j,none⟩=some k.ls[j].v:=by
 obtain ⟨la,lc,hlv,h1,h2,h3⟩:=SRow.slice h.rowL
 obtain ⟨ga,hga⟩:∃ga,0<k.ls.length→la=some ⟨ga,0,none⟩:=by
  by_cases h0:0<k.ls.length
  ·obtain ⟨g,c,e,-,-⟩:=SRow.cell h.rowL (k:=0) (u:=k.ls[0].v) (by simp [h0])
   rw [hlv] at e
   injection e with e _ _
   exact ⟨g,fun _=>e⟩
  ·exact ⟨0,fun h=>absurd h h0⟩
 refine ⟨ga,la,lc,hlv,h1,h2,hga,fun S wr hu hS=>?_⟩
 obtain ⟨t1,t2⟩:=h.tops hu hS
 refine ⟨by rw [cell_of_row wr _ 0 _ _ _ t1,←hlv];rfl,lt_of_heap t1,fun j hj=>?_⟩
 obtain ⟨g,c,e,e1,e2⟩:=SRow.cell t2 (k:=j) (u:=k.ls[j].v) (by simp [hj])
 rw [hlv,hga (by omega)] at e
 injection e with e _ _
 injection e with e
 injection e with e
 subst e
 exact ⟨e1,e2⟩
end
end Go.Proofs.YtgaidmohdhaonaaGreatDoor
