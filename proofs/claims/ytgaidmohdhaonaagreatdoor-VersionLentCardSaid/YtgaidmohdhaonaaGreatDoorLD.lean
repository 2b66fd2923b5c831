/-
  Package stratalaw10's Metas, in memory: lists of runs that were handed out and lie untouched, their copies; what one more of them leaves. No walk stands here.
  The like of LnD for lists whose copies are no lists: what each round leaves. No walk stands here.
  Package stratalaw10's Metas.Settle: what each round leaves. No walk stands here.
-/
import Derived.Test.YtgaidmohdhaonaaGreatDoorLA
import Derived.Test.YtgaidmohdhaonaaGreatDoorZC
import Derived.Test.YtgaidmohdhaonaaGreatDoorLB
set_option linter.unusedVariables false
set_option linter.unusedSimpArgs false
set_option linter.unnecessarySimpa false
set_option linter.unusedSectionVars false
namespace Go.Proofs.YtgaidmohdhaonaaGreatDoor
open Go Go.RowKit
structure KMeta where
 v:Value
 L:List MV
 uc:List Value
 uo:Nat→Prop
structure KM where
 p:Nat
 lv:Value
 wv:Value
 ls:List KMeta
def verM (L:List MV):VerA:=⟨0,0,0,0,0,[],L.map MV.m⟩
def KM.ownAt (k:KM) (T q:Nat):Prop:=
 (T=0∧q=k.p)∨(T=1∧k.lv.ownBlock=some q)∨(T=2∧k.wv.ownBlock=some q)∨∃i,∃h:i<k.ls.length,(T=3+3*i∧k.ls[i].v.ownBlock=some q)∨(T=4+3*i∧q∈keyBlocks k.ls[i].L)∨(T=5+3*i∧k.ls[i].uo q)
def KM.own (k:KM) (q:Nat):Prop:=∃T,k.ownAt T q
structure CopyOk (w:World) (o:Nat→Prop) (uc:List Value) (x:VerA):Prop where
 len:uc.length=7
 one:∀u∈uc,u.oneCell'=true
 lt:∀q,o q→q<w.heap.size
 at':∀(S:Nat→Prop) w',Upd S w w'→(∀q,o q→¬S q)→VerAt w' (.agg uc.toArray) x
theorem CopyOk.upd {S:Nat→Prop} {w w':World} {o:Nat→Prop} {uc:List Value} {x:VerA} (h:CopyOk w o uc x) (hu:Upd S w w') (hn:∀q,o q→¬S q):CopyOk w' o uc x:=
 ⟨h.len,h.one,fun q hq=>Nat.lt_of_lt_of_le (h.lt q hq) hu.size,fun S' w2 hu2 hn2=>h.at' (fun q=>S q∨S' q) w2 ((hu.mono (T:=fun q=>S q∨S' q) (fun _ _ e=>.inl e)).trans hu2 (fun _ _ e=>.inr e)) (fun q hq e=>e.elim (hn q hq) (hn2 q hq))⟩
theorem mem_kb {L:List MV} {y:MV} (hy:y∈L) {k:Nat} (h:y.f.ownBlock=some k∨y.l.ownBlock=some k):k∈keyBlocks L:=by
 unfold keyBlocks
 refine List.mem_flatMap.2 ⟨y,hy,?_⟩
 rcases h with h|h
 ·simp [h]
 ·simp [h]
theorem kb_mem {L:List MV} {k:Nat} (h:k∈keyBlocks L):∃y∈L,y.f.ownBlock=some k∨y.l.ownBlock=some k:=by
 obtain ⟨y,hy,h⟩:=List.mem_flatMap.1 h
 exact ⟨y,hy,by simpa using h⟩
theorem RunsOwn.upd {S:Nat→Prop} {w w':World} {base:Nat} {v:Value} {L:List MV} (h:RunsOwn w base v L) (hu:Upd S w w') (hv:∀q,v.ownBlock=some q→¬S q) (hk:∀q∈keyBlocks L,¬S q):RunsOwn w' base v L:=
 ⟨owns_upd h.row hu hv,fun x hx=>⟨(h.data x hx).1.upd hu (fun q e=>hk q (mem_kb hx (.inl e))),(h.data x hx).2.upd hu (fun q e=>hk q (mem_kb hx (.inr e)))⟩⟩
theorem RunsOwn.lowM {w:World} {base base':Nat} {v:Value} {L:List MV} (h:RunsOwn w base v L) (hb:base'≤base):RunsOwn w base' v L:=⟨owns_lower h.row hb,h.data⟩
theorem RunsOwn.key_lt {w:World} {base:Nat} {v:Value} {L:List MV} (h:RunsOwn w base v L) {q:Nat} (hq:q∈keyBlocks L):q<w.heap.size:=by
 obtain ⟨y,hy,e⟩:=kb_mem hq
 exact e.elim ((h.data y hy).1.lt q) ((h.data y hy).2.lt q)
theorem RunsOwn.apart {w:World} {base:Nat} {v:Value} {L:List MV} (h:RunsOwn w base v L) {L2:List MV} {v2:Value} {base2:Nat} (h2:RunsOwn w base2 v2 L2) {q:Nat} (hv:v.ownBlock=some q):q∉keyBlocks L2:=by
 intro hq
 obtain ⟨y,hy,e⟩:=kb_mem hq
 obtain ⟨-,hr⟩:=h.row
 have key:∀ {u:Value} {bs:List UInt8},DataIs w u bs→u.ownBlock=some q→False:=by
  intro u bs hd hu
  rcases hr with ⟨rfl,-⟩|⟨g,cap,cur,rfl,-,hg,-⟩
  ·cases hv
  rcases hd with ⟨rfl,-⟩|⟨g2,cap2,cur2,rfl,hg2,-⟩
  ·cases hu
  injection hv with hv
  injection hu with hu
  simp only at hv hu
  subst hv
  subst hu
  rw [hg] at hg2
  injection hg2 with hg2
  injection hg2 with _ hg2
  exact absurd hg2 (by decide)
 exact e.elim (key (h2.data y hy).1) (key (h2.data y hy).2)
theorem CopyOk.of {w:World} {base:Nat} {v:Value} {x:VerA} (h:VerOwn w base v x):∃(uc:List Value) (o:Nat→Prop),v=.agg uc.toArray∧CopyOk w o uc x∧∀q,o q→base≤q:=by
 obtain ⟨st,rs,L,rfl,hd,hr,hx,hn,hb⟩:=h.ex
 obtain ⟨ao,cap,hrs⟩:=hr.slice
 obtain ⟨a2,c2,hst⟩:∃a2 c2,st=.slice a2 x.state.length c2:=by
  obtain ⟨a,c,e,-⟩:=hd.shape
  exact ⟨a,c,e⟩
 refine ⟨[.int .i64 x.gen,.int .i64 x.flushed,.int .i64 x.next,.int .i64 x.low,.int .i64 x.clock,st,rs],fun q=>st.ownBlock=some q∨rs.ownBlock=some q∨q∈keyBlocks L,rfl,⟨rfl,?_,?_,?_⟩,?_⟩
 ·intro u hu
  simp only [List.mem_cons,List.not_mem_nil,or_false] at hu
  rcases hu with rfl|rfl|rfl|rfl|rfl|rfl|rfl
  ·rfl
  ·rfl
  ·rfl
  ·rfl
  ·rfl
  ·rw [hst];rfl
  ·rw [hrs];rfl
 ·rintro q (e|e|e)
  ·exact hd.lt q e
  ·exact (hr.row.lt q e).2
  ·exact hr.key_lt e
 ·intro S w' hu hS
  have h1:=verOf (a1:=x.gen) (a2:=x.flushed) (a3:=x.next) (a4:=x.low) (a5:=x.clock) (hd.upd hu (fun q e=>hS q (.inl e))) (hr.upd hu (fun q e=>hS q (.inr (.inl e))) (fun q e=>hS q (.inr (.inr e))))
  rw [←hx] at h1
  exact h1
 ·rintro q (e|e|e)
  ·exact hb q (by simp [e])
  ·exact (hr.row.lt q e).1
  ·exact hb q (List.mem_append_right _ e)
structure KM.In (w:World) (k:KM):Prop where
 top:w.heap[k.p]? = some (.cells #[k.lv,k.wv] 93 (0,0))
 rowL:SRow w 23 1 k.lv k.ls.length (k.ls.map KMeta.v)
 rowW:SRow w 25 7 k.wv k.ls.length (k.ls.flatMap KMeta.uc)
 vs:∀i (h:i<k.ls.length),RunsOwn w 0 k.ls[i].v k.ls[i].L
 was:∀i (h:i<k.ls.length),CopyOk w k.ls[i].uo k.ls[i].uc (verM k.ls[i].L)
 nd:∀i (h:i<k.ls.length),(keyBlocks k.ls[i].L).Nodup
 inn:∀i (h:i<k.ls.length),VerIn (verM k.ls[i].L)∧k.ls[i].L.length≤1000∧∀y∈k.ls[i].L,y.m.first.length≤1000000000∧y.m.last.length≤1000000000
 lab:∃lab:Nat→Nat,∀T q,k.ownAt T q→lab q=T
section
variable {w w':World} {k:KM}
theorem KM.oP:k.ownAt 0 k.p:=.inl ⟨rfl,rfl⟩
theorem KM.oL {q:Nat} (h:k.lv.ownBlock=some q):k.ownAt 1 q:=.inr (.inl ⟨rfl,h⟩)
theorem KM.oW {q:Nat} (h:k.wv.ownBlock=some q):k.ownAt 2 q:=.inr (.inr (.inl ⟨rfl,h⟩))
theorem KM.oV {i q:Nat} (hi:i<k.ls.length) (h:k.ls[i].v.ownBlock=some q):k.ownAt (3+3*i) q:=.inr (.inr (.inr ⟨i,hi,.inl ⟨rfl,h⟩⟩))
theorem KM.oK {i q:Nat} (hi:i<k.ls.length) (h:q∈keyBlocks k.ls[i].L):k.ownAt (4+3*i) q:=.inr (.inr (.inr ⟨i,hi,.inr (.inl ⟨rfl,h⟩)⟩))
theorem KM.oU {i q:Nat} (hi:i<k.ls.length) (h:k.ls[i].uo q):k.ownAt (5+3*i) q:=.inr (.inr (.inr ⟨i,hi,.inr (.inr ⟨rfl,h⟩)⟩))
theorem KM.In.one (h:k.In w) {T T' q:Nat} (h1:k.ownAt T q) (h2:k.ownAt T' q):T=T':=by
 obtain ⟨lab,hl⟩:=h.lab
 exact (hl T q h1).symm.trans (hl T' q h2)
theorem KM.In.lt (h:k.In w) {q:Nat} (hq:k.own q):q<w.heap.size:=by
 obtain ⟨T,⟨-,rfl⟩|⟨-,hq⟩|⟨-,hq⟩|⟨i,hi,⟨-,hq⟩|⟨-,hq⟩|⟨-,hq⟩⟩⟩:=hq
 ·exact lt_of_heap h.top
 ·exact h.rowL.lt q hq
 ·exact h.rowW.lt q hq
 ·exact ((h.vs i hi).row.lt q hq).2
 ·exact (h.vs i hi).key_lt hq
 ·exact (h.was i hi).lt q hq
theorem KM.In.upd {S:Nat→Prop} (h:k.In w) (hu:Upd S w w') (hn:∀q,k.own q→¬S q):k.In w':=
 ⟨hu.get h.top (hn _ ⟨_,KM.oP⟩),SRow.upd h.rowL hu (fun q hq=>hn q ⟨_,KM.oL hq⟩),SRow.upd h.rowW hu (fun q hq=>hn q ⟨_,KM.oW hq⟩),
  fun i hi=>(h.vs i hi).upd hu (fun q hq=>hn q ⟨_,KM.oV hi hq⟩) (fun q hq=>hn q ⟨_,KM.oK hi hq⟩),fun i hi=>(h.was i hi).upd hu (fun q hq=>hn q ⟨_,KM.oU hi hq⟩),h.nd,h.inn,h.lab⟩
theorem lab_more {own own' nw:Nat→Nat→Prop} (h:∃lab:Nat→Nat,∀T q,own T q→lab q=T) (hn:∃lab:Nat→Nat,∀T q,nw T q→lab q=T) (hs:∀T q,own' T q→nw T q∨(own T q∧∀T',¬nw T' q)):∃lab:Nat→Nat,∀T q,own' T q→lab q=T:=by
 obtain ⟨lab,hl⟩:=h
 obtain ⟨lab2,hl2⟩:=hn
 classical
 refine ⟨fun q=>if (∃T,nw T q) then lab2 q else lab q,fun T q hq=>?_⟩
 show (if (∃T,nw T q) then lab2 q else lab q)=T
 rcases hs T q hq with h1|⟨h1,h2⟩
 ·rw [if_pos ⟨T,h1⟩];exact hl2 T q h1
 ·rw [if_neg (fun ⟨T',e⟩=>h2 T' e)];exact hl T q h1
structure KMStep (w w':World) (k k':KM) (v:Value) (L:List MV):Prop where
 ins:k'.In w'
 p:k'.p=k.p
 ls:∃uc uo,k'.ls=k.ls ++ [⟨v,L,uc,uo⟩]
 upd:Upd (fun q=>q=k.p∨k.lv.ownBlock=some q∨k.wv.ownBlock=some q) w w'
 foot:∀q,k'.own q→k.own q∨(v.ownBlock=some q∨q∈keyBlocks L)∨w.heap.size≤q
theorem KM.In.kept (h:k.In w) {v lv' wv':Value} {L:List MV} {uc:List Value} {uo:Nat→Prop} {w2 w3 w4:World} (hv:RunsOwn w 0 v L) (hnd:(keyBlocks L).Nodup) (hin:VerIn (verM L)∧L.length≤1000∧∀y∈L,y.m.first.length≤1000000000∧y.m.last.length≤1000000000) (hvo:∀q,(v.ownBlock=some q∨q∈keyBlocks L)→¬k.own q)
  (r2:SRow w2 23 1 lv' (k.ls.length+1) (k.ls.map KMeta.v ++ [v])) (u2:Upd (fun q=>k.lv.ownBlock=some q) w w2) (o2:∀q,lv'.ownBlock=some q→k.lv.ownBlock=some q∨w.heap.size≤q)
  (u3:Upd (fun _=>False) (w2.setCell ⟨k.p,0,none⟩ lv') w3) (hu:CopyOk w3 uo uc (verM L)) (hun:∀q,uo q→w2.heap.size≤q)
  (r4:SRow w4 25 7 wv' (k.ls.length+1) (k.ls.flatMap KMeta.uc++uc)) (u4:Upd (fun q=>k.wv.ownBlock=some q) w3 w4) (o4:∀q,wv'.ownBlock=some q→k.wv.ownBlock=some q∨w3.heap.size≤q) :
  KMStep w (w4.setCell ⟨k.p,1,none⟩ wv') k ⟨k.p,lv',wv',k.ls ++ [⟨v,L,uc,uo⟩]⟩ v L:=by
 have hp:=lt_of_heap h.top
 have s2:=u2.size
 have s3:w2.heap.size≤w3.heap.size:=by have:=u3.size;simpa using this
 have s4:=u4.size
 have pl:¬k.lv.ownBlock=some k.p:=fun e=>by have:=h.one KM.oP (KM.oL e);omega
 have pw:¬k.wv.ownBlock=some k.p:=fun e=>by have:=h.one KM.oP (KM.oW e);omega
 have lw:∀q,k.lv.ownBlock=some q→¬k.wv.ownBlock=some q:=fun q e1 e2=>by have:=h.one (KM.oL e1) (KM.oW e2);omega
 have lpl:∀q,lv'.ownBlock=some q→¬q=k.p:=fun q e1 e=>by
  subst e
  exact (o2 _ e1).elim pl (fun h=>by omega)
 have lpw:∀q,wv'.ownBlock=some q→¬q=k.p:=fun q e1 e=>by
  subst e
  exact (o4 _ e1).elim pw (fun h=>by omega)
 have hU:Upd (fun q=>q=k.p∨k.lv.ownBlock=some q∨k.wv.ownBlock=some q) w (w4.setCell ⟨k.p,1,none⟩ wv'):=by
  refine Upd.setCell (p:=⟨k.p,1,none⟩) ?_ (fun _=>.inl rfl) _
  refine Upd.trans (w:=w3) ?_ u4 (fun q _ e=>.inr (.inr e))
  refine Upd.trans (w:=w2.setCell ⟨k.p,0,none⟩ lv') ?_ u3 (fun _ _ e=>e.elim)
  refine Upd.setCell (p:=⟨k.p,0,none⟩) ?_ (fun _=>.inl rfl) _
  exact u2.mono (fun q _ e=>.inr (.inl e))
 have hS:∀q,(q=k.p∨k.lv.ownBlock=some q∨k.wv.ownBlock=some q)→k.own q:=fun q e=>by
  rcases e with rfl|e|e
  ·exact ⟨_,KM.oP⟩
  ·exact ⟨_,KM.oL e⟩
  ·exact ⟨_,KM.oW e⟩
 have hout:∀T q,3≤T→k.ownAt T q→¬(q=k.p∨k.lv.ownBlock=some q∨k.wv.ownBlock=some q):=by
  intro T q hT hq e
  rcases e with rfl|e|e
  ·have:=h.one hq KM.oP;omega
  ·have:=h.one hq (KM.oL e);omega
  ·have:=h.one hq (KM.oW e);omega
 have hrow4:SRow (w4.setCell ⟨k.p,1,none⟩ wv') 23 1 lv' (k.ls.length+1) (k.ls.map KMeta.v ++ [v]):=by
  have a1:=SRow.upd r2 (Upd.cell_only w2 k.p 0 lv') (fun q hq=>lpl q hq)
  have a2:=SRow.upd a1 u3 (fun _ _ e=>e)
  have a3:=SRow.upd a2 u4 (fun q hq e=>(o2 q hq).elim (fun e2=>lw q e2 e) (fun e2=>by have:=h.lt ⟨_,KM.oW e⟩;omega))
  exact SRow.upd a3 (Upd.cell_only w4 k.p 1 wv') (fun q hq=>lpl q hq)
 have hrow5:SRow (w4.setCell ⟨k.p,1,none⟩ wv') 25 7 wv' (k.ls.length+1) (k.ls.flatMap KMeta.uc++uc):=SRow.upd r4 (Upd.cell_only w4 k.p 1 wv') (fun q hq=>lpw q hq)
 have hu5:CopyOk (w4.setCell ⟨k.p,1,none⟩ wv') uo uc (verM L):=by
  have a1:=hu.upd u4 (fun q hq e=>by have h1:=hun q hq;have:=h.lt ⟨_,KM.oW e⟩;omega)
  exact a1.upd (Upd.cell_only w4 k.p 1 wv') (fun q hq e=>by have h1:=hun q hq;omega)
 have hvlt:∀q,(v.ownBlock=some q∨q∈keyBlocks L)→q<w.heap.size:=fun q e=>e.elim (fun e=>(hv.row.lt q e).2) hv.key_lt
 have hfoot:∀T q,KM.ownAt ⟨k.p,lv',wv',k.ls ++ [⟨v,L,uc,uo⟩]⟩ T q→(T=1∧lv'.ownBlock=some q)∨(T=2∧wv'.ownBlock=some q)∨(T=3+3*k.ls.length∧v.ownBlock=some q)∨(T=4+3*k.ls.length∧q∈keyBlocks L)∨(T=5+3*k.ls.length∧uo q)∨(k.ownAt T q∧T≠1∧T≠2):=by
  intro T q hq
  rcases hq with ⟨rfl,hq⟩|⟨rfl,hq⟩|⟨rfl,hq⟩|⟨i,hi,hq⟩
  ·exact .inr (.inr (.inr (.inr (.inr ⟨.inl ⟨rfl,hq⟩,by decide,by decide⟩))))
  ·exact .inl ⟨rfl,hq⟩
  ·exact .inr (.inl ⟨rfl,hq⟩)
  ·have hi2:i<k.ls.length+1:=by simpa using hi
   by_cases e:i<k.ls.length
   ·have he:(k.ls ++ [(⟨v,L,uc,uo⟩:KMeta)])[i]'(by simpa using hi2)=k.ls[i]:=List.getElem_append_left e
    simp only at hq
    rw [he] at hq
    exact .inr (.inr (.inr (.inr (.inr ⟨.inr (.inr (.inr ⟨i,e,hq⟩)),by rcases hq with ⟨e,_⟩|⟨e,_⟩|⟨e,_⟩<;>omega,by rcases hq with ⟨e,_⟩|⟨e,_⟩|⟨e,_⟩<;>omega⟩))))
   ·obtain rfl:i=k.ls.length:=by omega
    have he:(k.ls ++ [(⟨v,L,uc,uo⟩:KMeta)])[k.ls.length]'(by simpa using hi2)=⟨v,L,uc,uo⟩:=by simp
    simp only at hq
    rw [he] at hq
    exact hq.elim (fun h=>.inr (.inr (.inl h))) (fun h=>h.elim (fun h=>.inr (.inr (.inr (.inl h)))) (fun h=>.inr (.inr (.inr (.inr (.inl h))))))
 have cases1:∀ {P:KMeta→Prop},(∀i (hi:i<k.ls.length),P k.ls[i])→P ⟨v,L,uc,uo⟩→∀i (hi:i<(k.ls ++ [(⟨v,L,uc,uo⟩:KMeta)]).length),P (k.ls ++ [(⟨v,L,uc,uo⟩:KMeta)])[i]:=by
  intro P h1 h2 i hi
  by_cases e:i<k.ls.length
  ·rw [List.getElem_append_left e];exact h1 i e
  ·have hi2:i<k.ls.length+1:=by simpa using hi
   obtain rfl:i=k.ls.length:=by omega
   simpa using h2
 refine ⟨⟨?_,?_,?_,?_,?_,?_,?_,?_⟩,rfl,⟨uc,uo,rfl⟩,hU,?_⟩
 ·have a2:=u2.get h.top pl
  have a3:=heap_setCell_at w2 k.p 0 _ _ lv' a2
  have a4:=u3.get a3 (fun e=>e)
  have a5:=u4.get a4 pw
  exact heap_setCell_at w4 k.p 1 _ _ wv' a5
 ·have e1:(k.ls ++ [(⟨v,L,uc,uo⟩:KMeta)]).length=k.ls.length+1:=by simp
  have e2:(k.ls ++ [(⟨v,L,uc,uo⟩:KMeta)]).map KMeta.v=k.ls.map KMeta.v ++ [v]:=by simp
  show SRow (w4.setCell ⟨k.p,1,none⟩ wv') 23 1 lv' (k.ls ++ [(⟨v,L,uc,uo⟩:KMeta)]).length ((k.ls ++ [(⟨v,L,uc,uo⟩:KMeta)]).map KMeta.v)
  rw [e1,e2]
  exact hrow4
 ·have e1:(k.ls ++ [(⟨v,L,uc,uo⟩:KMeta)]).length=k.ls.length+1:=by simp
  have e2:(k.ls ++ [(⟨v,L,uc,uo⟩:KMeta)]).flatMap KMeta.uc=k.ls.flatMap KMeta.uc++uc:=by simp
  show SRow (w4.setCell ⟨k.p,1,none⟩ wv') 25 7 wv' (k.ls ++ [(⟨v,L,uc,uo⟩:KMeta)]).length ((k.ls ++ [(⟨v,L,uc,uo⟩:KMeta)]).flatMap KMeta.uc)
  rw [e1,e2]
  exact hrow5
 ·exact cases1 (P:=fun x=>RunsOwn (w4.setCell ⟨k.p,1,none⟩ wv') 0 x.v x.L) (fun i hi=>(h.vs i hi).upd hU (fun q hq=>hout _ q (by omega) (KM.oV hi hq)) (fun q hq=>hout _ q (by omega) (KM.oK hi hq))) (hv.upd hU (fun q hq e=>hvo q (.inl hq) (hS q e)) (fun q hq e=>hvo q (.inr hq) (hS q e)))
 ·exact cases1 (P:=fun x=>CopyOk (w4.setCell ⟨k.p,1,none⟩ wv') x.uo x.uc (verM x.L)) (fun i hi=>(h.was i hi).upd hU (fun q hq=>hout _ q (by omega) (KM.oU hi hq))) hu5
 ·exact cases1 (P:=fun x=>(keyBlocks x.L).Nodup) h.nd hnd
 ·exact cases1 (P:=fun x=>VerIn (verM x.L)∧x.L.length≤1000∧∀y∈x.L,y.m.first.length≤1000000000∧y.m.last.length≤1000000000) h.inn hin
 ·refine lab_more (own:=k.ownAt) (nw:=fun T q=>(T=1∧lv'.ownBlock=some q∧w.heap.size≤q)∨(T=2∧wv'.ownBlock=some q∧w3.heap.size≤q)∨(T=3+3*k.ls.length∧v.ownBlock=some q)∨(T=4+3*k.ls.length∧q∈keyBlocks L)∨(T=5+3*k.ls.length∧uo q)) h.lab ⟨fun q=>if v.ownBlock=some q then 3+3*k.ls.length else if q<w.heap.size then 4+3*k.ls.length else if q<w2.heap.size then 1 else if q<w3.heap.size then 5+3*k.ls.length else 2,?_⟩ ?_
  ·intro T q hq
   show (if v.ownBlock=some q then 3+3*k.ls.length else if q<w.heap.size then 4+3*k.ls.length else if q<w2.heap.size then 1 else if q<w3.heap.size then 5+3*k.ls.length else 2)=T
   rcases hq with ⟨rfl,e,e2⟩|⟨rfl,e,e2⟩|⟨rfl,e⟩|⟨rfl,e⟩|⟨rfl,e⟩
   ·rw [if_neg (fun e4=>by have:=hvlt q (.inl e4);omega),if_neg (by omega),if_pos (r2.lt q e)]
   ·rw [if_neg (fun e4=>by have:=hvlt q (.inl e4);omega),if_neg (by omega),if_neg (by omega),if_neg (by omega)]
   ·rw [if_pos e]
   ·rw [if_neg (fun e4=>hv.apart hv e4 e),if_pos (hvlt q (.inr e))]
   ·have h1:=hun q e
    rw [if_neg (fun e4=>by have:=hvlt q (.inl e4);omega),if_neg (by omega),if_neg (by omega),if_pos (hu.lt q e)]
  ·intro T q hq
   have hno:∀T0,k.ownAt T0 q→∀T',¬((T'=1∧lv'.ownBlock=some q∧w.heap.size≤q)∨(T'=2∧wv'.ownBlock=some q∧w3.heap.size≤q)∨(T'=3+3*k.ls.length∧v.ownBlock=some q)∨(T'=4+3*k.ls.length∧q∈keyBlocks L)∨(T'=5+3*k.ls.length∧uo q)):=by
    intro T0 h0 T' e
    have h5:=h.lt ⟨_,h0⟩
    rcases e with ⟨-,-,e⟩|⟨-,-,e⟩|⟨-,e⟩|⟨-,e⟩|⟨-,e⟩
    ·omega
    ·omega
    ·exact hvo q (.inl e) ⟨_,h0⟩
    ·exact hvo q (.inr e) ⟨_,h0⟩
    ·have:=hun q e;omega
   rcases hfoot T q hq with ⟨rfl,e⟩|⟨rfl,e⟩|⟨rfl,e⟩|⟨rfl,e⟩|⟨rfl,e⟩|⟨e,e1,e2⟩
   ·rcases o2 q e with e3|e3
    ·exact .inr ⟨KM.oL e3,hno _ (KM.oL e3)⟩
    ·exact .inl (.inl ⟨rfl,e,e3⟩)
   ·rcases o4 q e with e3|e3
    ·exact .inr ⟨KM.oW e3,hno _ (KM.oW e3)⟩
    ·exact .inl (.inr (.inl ⟨rfl,e,e3⟩))
   ·exact .inl (.inr (.inr (.inl ⟨rfl,e⟩)))
   ·exact .inl (.inr (.inr (.inr (.inl ⟨rfl,e⟩))))
   ·exact .inl (.inr (.inr (.inr (.inr ⟨rfl,e⟩))))
   ·exact .inr ⟨e,hno _ e⟩
 ·rintro q ⟨T,hq⟩
  rcases hfoot T q hq with ⟨rfl,e⟩|⟨rfl,e⟩|⟨rfl,e⟩|⟨rfl,e⟩|⟨rfl,e⟩|⟨e,e1,e2⟩
  ·exact (o2 q e).elim (fun e=>.inl ⟨_,KM.oL e⟩) (fun e=>.inr (.inr e))
  ·exact (o4 q e).elim (fun e=>.inl ⟨_,KM.oW e⟩) (fun e=>.inr (.inr (by omega)))
  ·exact .inr (.inl (.inl e))
  ·exact .inr (.inl (.inr e))
  ·exact .inr (.inr (by have:=hun q e;omega))
  ·exact .inl ⟨_,e⟩
end
structure KP.Wk (D R E:TypeId) (z:Nat) (w:World) (k:KP):Prop where
 top:w.heap[k.p]? = some (.cells #[k.lv,k.wv] D (0,0))
 rowL:SRow w R 1 k.lv k.ls.length (k.ls.map KL.v)
 vs:∀i (h:i<k.ls.length),SRow w E z k.ls[i].v k.ls[i].n k.ls[i].xs
 short:∀i (h:i<k.ls.length),k.ls[i].n≤1000000000
 lab:∃lab:Nat→Nat,∀L q,k.ownAt L q→lab q=L
section
variable {D R E:TypeId} {z:Nat} {w w0 wr w':World} {k:KP} {M:Nat→List Value}
theorem KP.Wk.one (h:k.Wk D R E z w) {L L' q:Nat} (h1:k.ownAt L q) (h2:k.ownAt L' q):L=L':=by
 obtain ⟨lab,hl⟩:=h.lab
 exact (hl L q h1).symm.trans (hl L' q h2)
theorem KP.Wk.ltV (h:k.Wk D R E z w) {i q:Nat} (hi:i<k.ls.length) (e:k.ls[i].v.ownBlock=some q):q<w.heap.size:=(h.vs i hi).lt q e
theorem KP.Wk.vOut (h:k.Wk D R E z w) {q:Nat} (hq:k.vown q):¬q=k.p∧¬k.lv.ownBlock=some q∧¬k.wv.ownBlock=some q∧q<w.heap.size:=by
 obtain ⟨i,hi,e⟩:=hq
 refine ⟨fun e2=>?_,fun e2=>?_,fun e2=>?_,h.ltV hi e⟩
 ·subst e2;have:=h.one KP.oP (KP.oV hi e);omega
 ·have:=h.one (KP.oL e2) (KP.oV hi e);omega
 ·have:=h.one (KP.oW e2) (KP.oV hi e);omega
theorem KP.Wk.vv (h:k.Wk D R E z w) {i t q:Nat} (hi:i<k.ls.length) (ht:t<k.ls.length) (e1:k.ls[i].v.ownBlock=some q) (e2:k.ls[t].v.ownBlock=some q):i=t:=by
 have:=h.one (KP.oV hi e1) (KP.oV ht e2)
 omega
theorem KP.Wk.tops (h:k.Wk D R E z w) {S:Nat→Prop} (hu:Upd S w wr) (hS:∀q,q<w.heap.size→S q→k.vown q):wr.heap[k.p]? = some (.cells #[k.lv,k.wv] D (0,0))∧SRow wr R 1 k.lv k.ls.length (k.ls.map KL.v):=
 ⟨hu.get h.top (fun e=>(h.vOut (hS _ (lt_of_heap h.top) e)).1 rfl),SRow.upd h.rowL hu (fun q hq e=>(h.vOut (hS q (h.rowL.lt q hq) e)).2.1 hq)⟩
structure MarkedW (E:TypeId) (z:Nat) (w0 wr:World) (k:KP) (M:Nat→List Value) (i:Nat):Prop where
 done:∀t (h:t<k.ls.length),t<i→SRow wr E z k.ls[t].v k.ls[t].n (rep k.ls[t].n (M t))
 rest:∀t (h:t<k.ls.length),i≤t→SRow wr E z k.ls[t].v k.ls[t].n k.ls[t].xs
 upd:Upd k.vown w0 wr
theorem KP.Wk.marked0 (h:k.Wk D R E z w0) (hu:Upd (fun _=>False) w0 wr):MarkedW E z w0 wr k M 0:=
 ⟨fun t _ ht=>by omega,fun t ht _=>SRow.upd (h.vs t ht) hu (fun _ _ e=>e),hu.mono (fun _ _ e=>e.elim)⟩
theorem MarkedW.step {i:Nat} (hm:MarkedW E z w0 wr k M i) (h:k.Wk D R E z w0) (hi:i<k.ls.length) (hu:Upd (fun q=>k.ls[i].v.ownBlock=some q) wr w') (hr:SRow w' E z k.ls[i].v k.ls[i].n (rep k.ls[i].n (M i))):MarkedW E z w0 w' k M (i+1):=by
 refine ⟨fun t ht hlt=>?_,fun t ht hle=>?_,hm.upd.trans hu (fun q _ e=>⟨i,hi,e⟩)⟩
 ·by_cases e:t=i
  ·subst e;exact hr
  ·exact SRow.upd (hm.done t ht (by omega)) hu (fun q e1 e2=>e (h.vv ht hi e1 e2))
 ·exact SRow.upd (hm.rest t ht (by omega)) hu (fun q e1 e2=>by have:=h.vv ht hi e1 e2;omega)
structure GrownW (R E:TypeId) (z:Nat) (w0 wr:World) (k:KP) (M:Nat→List Value) (i:Nat) (mv:Value) (gs:List Value):Prop where
 len:gs.length=i
 row:SRow wr R 1 mv i gs
 new:∀q,mv.ownBlock=some q→w0.heap.size≤q
 full:∀t (h:t<k.ls.length),t<i→FullG wr k.ls[t].v (M t)
 gfull:∀t (h:t<gs.length),FullG wr gs[t] (M t)
 gown:∀t (h:t<gs.length) (h2:t<k.ls.length) q,gs[t].ownBlock=some q→(k.ls[t].v.ownBlock=some q∨w0.heap.size≤q)∧¬mv.ownBlock=some q∧q<wr.heap.size
 rest:∀t (h:t<k.ls.length),i≤t→SRow wr E z k.ls[t].v k.ls[t].n (rep k.ls[t].n (M t))
 upd:Upd k.vown w0 wr
theorem MarkedW.grown (hm:MarkedW E z w0 wr k M k.ls.length):GrownW R E z w0 wr k M 0 (.slice none 0 0) []:=
 ⟨rfl,SRow.nil _ _ _,fun q e=>(by cases e),fun t _ ht=>by omega,fun t h=>by simp at h,fun t h=>by simp at h,fun t ht _=>hm.done t ht ht,hm.upd⟩
theorem GrownW.step {i:Nat} {mv gv mv':Value} {gs:List Value} {w1 w2:World} (hg:GrownW R E z w0 wr k M i mv gs) (h:k.Wk D R E z w0) (hi:i<k.ls.length) (u1:Upd (fun q=>k.ls[i].v.ownBlock=some q) wr w1) (f1:FullG w1 k.ls[i].v (M i)) (f2:FullG w1 gv (M i))
  (o1:∀q,gv.ownBlock=some q→(k.ls[i].v.ownBlock=some q∨wr.heap.size≤q)∧q<w1.heap.size)
  (r2:SRow w2 R 1 mv' (i+1) (gs ++ [gv])) (u2:Upd (fun q=>mv.ownBlock=some q) w1 w2) (o2:∀q,mv'.ownBlock=some q→mv.ownBlock=some q∨w1.heap.size≤q):GrownW R E z w0 w2 k M (i+1) mv' (gs ++ [gv]):=by
 have s0:=hg.upd.size
 have s1:=u1.size
 have s2:=u2.size
 have hmv:∀q,mv.ownBlock=some q→w0.heap.size≤q∧q<wr.heap.size:=fun q e=>⟨hg.new q e,(hg.row.lt q e)⟩
 have hU:Upd (fun q=>k.ls[i].v.ownBlock=some q∨mv.ownBlock=some q) wr w2:=(u1.mono (fun _ _ e=>.inl e)).trans u2 (fun _ _ e=>.inr e)
 have hvm:∀t (ht:t<k.ls.length) q,k.ls[t].v.ownBlock=some q→¬mv.ownBlock=some q:=fun t ht q e e2=>by
  have h1:=(hmv q e2).1
  have h2:=h.ltV ht e
  omega
 have hgm:∀q,gv.ownBlock=some q→¬mv.ownBlock=some q:=fun q e e2=>by
  rcases (o1 q e).1 with e3|e3
  ·exact hvm i hi q e3 e2
  ·have:=(hmv q e2).2;omega
 refine ⟨by simp [hg.len],r2,fun q e=>?_,fun t ht hlt=>?_,fun t ht=>?_,fun t ht ht2 q e=>?_,fun t ht hle=>?_,?_⟩
 ·exact (o2 q e).elim (hg.new q) (fun e=>by omega)
 ·by_cases e:t=i
  ·subst e
   exact f1.upd u2 (fun q e=>hvm t ht q e)
  ·exact (hg.full t ht (by omega)).upd hU (fun q e1 e2=>e2.elim (fun e2=>e (h.vv ht hi e1 e2)) (fun e2=>hvm t ht q e1 e2))
 ·by_cases e:t<gs.length
  ·rw [List.getElem_append_left e]
   have hti:t<k.ls.length:=by have:=hg.len;omega
   refine (hg.gfull t e).upd hU (fun q e1 e2=>?_)
   obtain ⟨a1,a2,a3⟩:=hg.gown t e hti q e1
   rcases e2 with e2|e2
   ·rcases a1 with a1|a1
    ·have:=h.vv hti hi a1 e2;have:=hg.len;omega
    ·have:=h.ltV hi e2;omega
   ·exact a2 e2
  ·obtain rfl:t=gs.length:=by simp at ht;omega
   rw [List.getElem_append_right (Nat.le_refl _)]
   simp only [Nat.sub_self,List.getElem_cons_zero]
   rw [show M gs.length=M i from by rw [hg.len]]
   exact f2.upd u2 hgm
 ·by_cases e1:t<gs.length
  ·rw [List.getElem_append_left e1] at e
   obtain ⟨a1,a2,a3⟩:=hg.gown t e1 ht2 q e
   refine ⟨a1,fun e2=>?_,by omega⟩
   exact (o2 q e2).elim a2 (fun e3=>by omega)
  ·obtain rfl:t=gs.length:=by simp at ht;omega
   rw [List.getElem_append_right (Nat.le_refl _)] at e
   simp only [Nat.sub_self,List.getElem_cons_zero] at e
   have hti:gs.length=i:=hg.len
   refine ⟨?_,fun e2=>?_,by have:=(o1 q e).2;omega⟩
   ·rcases (o1 q e).1 with e3|e3
    ·left
     simp only [hti]
     exact e3
    ·right;omega
   ·rcases o2 q e2 with e3|e3
    ·exact hgm q e e3
    ·have:=(o1 q e).2;omega
 ·exact SRow.upd (hg.rest t ht (by omega)) hU (fun q e1 e2=>e2.elim (fun e2=>by have:=h.vv ht hi e1 e2;omega) (fun e2=>hvm t ht q e1 e2))
 ·exact hg.upd.trans hU (fun q hq e=>e.elim (fun e=>⟨i,hi,e⟩) (fun e=>by have:=(hmv q e).1;omega))
end
section
variable {D R E:TypeId} {z:Nat} {w wr:World} {k:KP}
theorem KP.Wk.rowAt (h:k.Wk D R E z w):∃ga la lc,k.lv=.slice la k.ls.length lc∧k.ls.length≤lc∧lc≤9223372036854775807∧(0<k.ls.length→la=some ⟨ga,0,none⟩)∧
  ∀(S:Nat→Prop) wr,Upd S w wr→(∀q,q<w.heap.size→S q→k.vown q)→wr.cell? ⟨k.p,0,none⟩=some (.slice la k.ls.length lc)∧k.p<wr.heap.size∧∀j (hj:j<k.ls.length),ga<wr.heap.size∧wr.cell? ⟨ga,j,none⟩=some k.ls[j].v:=by
 obtain ⟨la,lc,hlv,h1,h2,h3⟩:=SRow.slice h.rowL
 obtain ⟨ga,hga⟩:∃ga,0<k.ls.length→la=some ⟨ga,0,none⟩:=by
  by_cases h0:0<k.ls.length
  ·obtain ⟨g,c,e,-,-⟩:=SRow.cell h.rowL (k:=0) (u:=k.ls[0].v) (by simp [h0])
   rw [hlv] at e
   injection e with e _ _
   exact ⟨g,fun _=>e⟩
  ·exact ⟨0,fun h=>absurd h h0⟩
 refine ⟨ga,la,lc,hlv,h1,h2,hga,fun S wr hu hS=>?_⟩
 obtain ⟨t1,t2⟩:=h.tops hu hS
 refine ⟨by rw [cell_of_row wr _ 0 _ _ _ t1,←hlv];rfl,lt_of_heap t1,fun j hj=>?_⟩
 obtain ⟨g,c,e,e1,e2⟩:=SRow.cell t2 (k:=j) (u:=k.ls[j].v) (by simp [hj])
 rw [hlv,hga (by omega)] at e
 injection e with e _ _
 injection e with e
 injection e with e
 subst e
 exact ⟨e1,e2⟩
end
def SameB (b:KP):Prop:=∀x∈b.ls,∃bs:List UInt8,x.xs=bs.map byteV∧x.ys=bs.map byteV
def MM (i:Nat):List Value:=[.int .i64 (-100-(i:Int)),.int .i64 0,.int .i64 0,.int .i64 0,.int .i64 0,.int .i64 0,.slice none 0 0,.slice none 0 0]
theorem MM_length (i:Nat):(MM i).length=8:=rfl
theorem metas_length (l:List MV):(l.flatMap MV.cells).length=l.length*8:=by
 induction l with
 | nil=>rfl
 | cons a r ih=>rw [List.flatMap_cons,List.length_append,ih];simp [MV.cells];omega
theorem metas_drop (l:List MV) (c:Nat) (h:c<l.length):(l.flatMap MV.cells).drop (c*8)=l[c].cells++(l.flatMap MV.cells).drop ((c+1)*8):=by
 induction l generalizing c with
 | nil=>simp at h
 | cons a r ih=>
  cases c with
  | zero=>rw [List.flatMap_cons];simp [MV.cells]
  | succ c=>
   have h':c<r.length:=by simpa using h
   rw [List.flatMap_cons,List.getElem_cons_succ]
   have e1:(c+1)*8=a.cells.length+c*8:=by simp [MV.cells];omega
   have e2:(c+1+1)*8=a.cells.length+(c+1)*8:=by simp [MV.cells];omega
   rw [e1,e2,List.drop_length_add_append,List.drop_length_add_append]
   exact ih c h'
theorem kb_append (a b:List MV):keyBlocks (a++b)=keyBlocks a++keyBlocks b:=by unfold keyBlocks;rw [List.flatMap_append]
theorem kb_one (y:MV):keyBlocks [y]=y.f.ownBlock.toList++y.l.ownBlock.toList:=by simp [keyBlocks]
theorem kb_take (l:List MV) (c:Nat) (h:c<l.length):keyBlocks (l.take (c+1))=(keyBlocks (l.take c)++l[c].f.ownBlock.toList)++l[c].l.ownBlock.toList:=by
 rw [List.take_succ_eq_append_getElem h,kb_append,kb_one,List.append_assoc]
theorem kb_split (l:List MV) (c:Nat) (h:c<l.length):keyBlocks l=keyBlocks (l.take c)++(l[c].f.ownBlock.toList++(l[c].l.ownBlock.toList++keyBlocks (l.drop (c+1)))):=by
 have h3:l=l.take c++l[c] :: l.drop (c+1):=by rw [←List.drop_eq_getElem_cons h,List.take_append_drop]
 have h4:keyBlocks (l.take c++l[c] :: l.drop (c+1))=keyBlocks (l.take c)++(l[c].f.ownBlock.toList++(l[c].l.ownBlock.toList++keyBlocks (l.drop (c+1)))):=by
  rw [kb_append];unfold keyBlocks;rw [List.flatMap_cons,List.append_assoc]
 rw [←h4,←h3]
theorem key_apart {l:List MV} {c:Nat} (h:c<l.length) (hn:(keyBlocks l).Nodup):(∀q,l[c].f.ownBlock=some q→q∉keyBlocks (l.take c))∧∀q,l[c].l.ownBlock=some q→q∉keyBlocks (l.take c)++l[c].f.ownBlock.toList:=by
 rw [kb_split l c h,List.nodup_append] at hn
 obtain ⟨-,h2,h3⟩:=hn
 rw [List.nodup_append] at h2
 refine ⟨fun q e hq=>h3 q hq q (by simp [e]) rfl,fun q e hq=>?_⟩
 rcases List.mem_append.1 hq with hq|hq
 ·exact h3 q hq q (by simp [e]) rfl
 ·exact h2.2.2 q hq q (by simp [e]) rfl
structure MSt (w0 wr:World) (M:KM) (b b':KP) (i c j:Nat) (K:List Nat):Prop where
 done:∀t (h:t<M.ls.length),t<i→SRow wr 48 8 M.ls[t].v M.ls[t].L.length (rep M.ls[t].L.length (MM t))
 cur:∀h:i<M.ls.length,SRow wr 48 8 M.ls[i].v M.ls[i].L.length (rep c (MM i)++(M.ls[i].L.flatMap MV.cells).drop (c*8))
 upd:Upd (fun q=>(∃t,∃h:t<M.ls.length,(t<i∨(t=i∧0<c))∧M.ls[t].v.ownBlock=some q)∨b.own q) w0 wr
 book:b'.B wr
 bp:b'.p=b.p
 same:SameB b'
 blen:b'.ls.length≤b.ls.length+2000*i+2*c+j
 bown:∀q,b'.own q→b.own q∨(∃t,∃h:t<M.ls.length,t<i∧q∈keyBlocks M.ls[t].L)∨(∃h:i<M.ls.length,q∈K∧q∈keyBlocks M.ls[i].L)∨w0.heap.size≤q
 blv:∀q,b'.lv.ownBlock=some q∨b'.wv.ownBlock=some q→b.own q∨w0.heap.size≤q
section
variable {w0 wr w':World} {M:KM} {b b':KP} {i c j:Nat} {K:List Nat}
theorem KM.own_v {i q:Nat} (hi:i<M.ls.length) (e:M.ls[i].v.ownBlock=some q):M.own q:=⟨_,KM.oV hi e⟩
theorem KM.own_k {i q:Nat} (hi:i<M.ls.length) (e:q∈keyBlocks M.ls[i].L):M.own q:=⟨_,KM.oK hi e⟩
theorem KM.In.vv (hM:M.In w0) {t q:Nat} (hi:i<M.ls.length) (ht:t<M.ls.length) (e1:M.ls[i].v.ownBlock=some q) (e2:M.ls[t].v.ownBlock=some q):i=t:=by
 have:=hM.one (KM.oV hi e1) (KM.oV ht e2)
 omega
theorem KM.In.kk (hM:M.In w0) {t q:Nat} (hi:i<M.ls.length) (ht:t<M.ls.length) (e1:q∈keyBlocks M.ls[i].L) (e2:q∈keyBlocks M.ls[t].L):i=t:=by
 have:=hM.one (KM.oK hi e1) (KM.oK ht e2)
 omega
theorem KM.In.vk (hM:M.In w0) {t q:Nat} (hi:i<M.ls.length) (ht:t<M.ls.length) (e1:M.ls[i].v.ownBlock=some q) (e2:q∈keyBlocks M.ls[t].L):False:=by
 have:=hM.one (KM.oV hi e1) (KM.oK ht e2)
 omega
theorem KM.In.vu (hM:M.In w0) {t q:Nat} (hi:i<M.ls.length) (ht:t<M.ls.length) (e1:M.ls[i].v.ownBlock=some q) (e2:M.ls[t].uo q):False:=by
 have:=hM.one (KM.oV hi e1) (KM.oU ht e2)
 omega
theorem MSt.start (hM:M.In w0) (hb:b.B w0) (hs:SameB b):MSt w0 w0 M b b 0 0 0 []:=
 ⟨fun t _ h=>by omega,fun h=>by simpa [rep] using SRow.of_owns (hM.vs 0 h).row,Upd.refl _ _,hb,rfl,hs,by simp,fun q h=>.inl h,fun q h=>.inl (h.elim (fun e=>⟨_,KP.oL e⟩) (fun e=>⟨_,KP.oW e⟩))⟩
theorem MSt.keep (h:MSt w0 wr M b b' i c j K) (hu:Upd (fun _=>False) wr w'):MSt w0 w' M b b' i c j K:=
 ⟨fun t ht hl=>(h.done t ht hl).upd hu (fun _ _ e=>e),fun ht=>(h.cur ht).upd hu (fun _ _ e=>e),h.upd.trans hu (fun _ _ e=>e.elim),h.book.upd hu (fun _ _ e=>e),h.bp,h.same,h.blen,h.bown,h.blv⟩
theorem MSt.away (h:MSt w0 wr M b b' i c j K) (hbM:∀q,M.own q→¬b.own q) {q:Nat} (hq:M.own q) (hv:∀t (ht:t<M.ls.length),M.ls[t].v.ownBlock=some q→i<t∨(t=i∧c=0)):¬((∃t,∃h:t<M.ls.length,(t<i∨(t=i∧0<c))∧M.ls[t].v.ownBlock=some q)∨b.own q):=by
 rintro (⟨t,ht,h1,h2⟩|e)
 ·have:=hv t ht h2;omega
 ·exact hbM q hq e
theorem MSt.list (h:MSt w0 wr M b b' i 0 j K) (hM:M.In w0) (hbM:∀q,M.own q→¬b.own q) (hi:i<M.ls.length):RunsOwn wr 0 M.ls[i].v M.ls[i].L∧VerAt wr (.agg M.ls[i].uc.toArray) (verM M.ls[i].L):=by
 refine ⟨(hM.vs i hi).upd h.upd (fun q hq=>h.away hbM (KM.own_v hi hq) (fun t ht e=>.inr ⟨(hM.vv hi ht hq e).symm,rfl⟩)) (fun q hq=>h.away hbM (KM.own_k hi hq) (fun t ht e=>(hM.vk ht hi e hq).elim)),(hM.was i hi).at' _ _ h.upd (fun q hq=>h.away hbM ⟨_,KM.oU hi hq⟩ (fun t ht e=>(hM.vu ht hi e hq).elim))⟩
theorem MSt.data (h:MSt w0 wr M b b' i c j K) (hM:M.In w0) (hbM:∀q,M.own q→¬b.own q) (hi:i<M.ls.length) {u:Value} {bs:List UInt8} (hd:DataIs w0 u bs) (hk:∀q,u.ownBlock=some q→q∈keyBlocks M.ls[i].L∧q∉K) :
  DataIs wr u bs∧∀q,u.ownBlock=some q→¬b'.own q∧q<w0.heap.size:=by
 refine ⟨hd.upd h.upd (fun q hq=>h.away hbM (KM.own_k hi (hk q hq).1) (fun t ht e=>(hM.vk ht hi e (hk q hq).1).elim)),fun q e=>⟨fun hb=>?_,hd.lt q e⟩⟩
 have hlt:=hd.lt q e
 rcases h.bown q hb with h1|⟨t,ht,h1,h2⟩|⟨_,h2,-⟩|h1
 ·exact hbM q (KM.own_k hi (hk q e).1) h1
 ·have:=hM.kk ht hi h2 (hk q e).1;omega
 ·exact (hk q e).2 h2
 ·omega
theorem MSt.kept {b'':KP} {u:Value} {n:Nat} {bs:List UInt8} (h:MSt w0 wr M b b' i c j K) (hM:M.In w0) (hb0:b.B w0) (hbM:∀q,M.own q→¬b.own q) (hi:i<M.ls.length) (hk:∀q,u.ownBlock=some q→q∈keyBlocks M.ls[i].L) (hkb:KStepB wr w' b' b'' u n (bs.map byteV)) :
  MSt w0 w' M b b'' i c (j+1) (K++u.ownBlock.toList):=by
 have hS:∀q,q<w0.heap.size→(q=b'.p∨b'.lv.ownBlock=some q∨b'.wv.ownBlock=some q)→b.own q:=fun q hq e=>by
  rcases e with e|e|e
  ·exact ⟨0,.inl ⟨rfl,by rw [e,h.bp]⟩⟩
  ·exact (h.blv q (.inl e)).resolve_right (by omega)
  ·exact (h.blv q (.inr e)).resolve_right (by omega)
 have hvn:∀t (ht:t<M.ls.length) q,M.ls[t].v.ownBlock=some q→¬(q=b'.p∨b'.lv.ownBlock=some q∨b'.wv.ownBlock=some q):=fun t ht q e e2=>by
  have h1:M.own q:=KM.own_v ht e
  exact hbM q h1 (hS q (hM.lt h1) e2)
 refine ⟨fun t ht hl=>(h.done t ht hl).upd hkb.1.upd (hvn t ht),fun ht=>(h.cur ht).upd hkb.1.upd (hvn i ht),h.upd.trans hkb.1.upd (fun q hq e=>.inr (hS q hq e)),hkb.1.ins,hkb.1.p.trans h.bp,?_,?_,fun q hq=>?_,fun q hq=>?_⟩
 ·obtain ⟨u,e⟩:=hkb.2
  intro x hx
  rw [e] at hx
  rcases List.mem_append.1 hx with hx|hx
  ·exact h.same x hx
  ·obtain rfl:=List.mem_singleton.1 hx
   exact ⟨_,rfl,rfl⟩
 ·obtain ⟨u,e⟩:=hkb.2
  rw [e]
  have:=h.blen
  simp
  omega
 ·rcases hkb.1.foot q hq with e|e|e
  ·rcases h.bown q e with h1|h1|⟨h1,h2,h3⟩|h1
   ·exact .inl h1
   ·exact .inr (.inl h1)
   ·exact .inr (.inr (.inl ⟨h1,List.mem_append_left _ h2,h3⟩))
   ·exact .inr (.inr (.inr h1))
  ·exact .inr (.inr (.inl ⟨hi,List.mem_append_right _ (by simp [e]),hk q e⟩))
  ·exact .inr (.inr (.inr (Nat.le_trans h.upd.size e)))
 ·have hs:=h.upd.size
  rcases hq with e|e
  ·exact (hkb.1.lo q e).elim (fun e=>h.blv q (.inl e)) (fun e=>.inr (by omega))
  ·exact (hkb.1.wo q e).elim (fun e=>h.blv q (.inr e)) (fun e=>.inr (by omega))
theorem MSt.next {w3:World} (k:MSt w0 wr M b b' i c 2 K) (hM:M.In w0) (hbM:∀q,M.own q→¬b.own q) (hi:i<M.ls.length) (hu:Upd (fun q=>M.ls[i].v.ownBlock=some q) wr w3)
  (hr:SRow w3 48 8 M.ls[i].v M.ls[i].L.length (rep (c+1) (MM i)++(M.ls[i].L.flatMap MV.cells).drop ((c+1)*8))):MSt w0 w3 M b b' i (c+1) 0 K:=by
 refine ⟨fun t ht hl=>(k.done t ht hl).upd hu (fun q e1 e2=>by have:=hM.vv hi ht e2 e1;omega),fun _=>hr,?_,k.book.upd hu (fun q hq e=>?_),k.bp,k.same,by have:=k.blen;omega,k.bown,k.blv⟩
 ·refine Upd.trans (k.upd.mono (fun q _ e=>e.imp (fun ⟨t,ht,h1,h2⟩=>⟨t,ht,h1.imp id (fun h=>⟨h.1,by omega⟩),h2⟩) id)) hu (fun q _ e=>.inl ⟨i,hi,.inr ⟨rfl,by omega⟩,e⟩)
 ·have h1:M.own q:=KM.own_v hi e
  rcases k.bown q hq with h2|⟨t,ht,_,h2⟩|⟨_,_,h2⟩|h2
  ·exact hbM q h1 h2
  ·exact hM.vk hi ht e h2
  ·exact hM.vk hi hi e h2
  ·have:=hM.lt h1;omega
theorem MSt.nextL (h:MSt w0 wr M b b' i c 0 K) (hM:M.In w0) (hbM:∀q,M.own q→¬b.own q) (hi:i<M.ls.length) (hc:c=M.ls[i].L.length):MSt w0 wr M b b' (i+1) 0 0 []:=by
 have hn:=(hM.inn i hi).2.1
 refine ⟨fun t ht hl=>?_,fun ht=>?_,h.upd.mono (fun q _ e=>e.imp (fun ⟨t,ht,h1,h2⟩=>⟨t,ht,.inl (by omega),h2⟩) id),h.book,h.bp,h.same,by have:=h.blen;omega,fun q hq=>?_,h.blv⟩
 ·by_cases e:t=i
  ·subst e
   have h1:=h.cur hi
   subst hc
   rw [List.drop_eq_nil_of_le (by rw [metas_length];exact Nat.le_refl _),List.append_nil] at h1
   exact h1
  ·exact h.done t ht (by omega)
 ·have h1:=SRow.of_owns (hM.vs (i+1) ht).row
  have h2:=h1.upd h.upd (fun q e=>h.away hbM (KM.own_v ht e) (fun t ht2 e2=>by have:=hM.vv ht ht2 e e2;omega))
  simpa [rep] using h2
 ·rcases h.bown q hq with h2|⟨t,ht,h1,h2⟩|⟨h1,_,h2⟩|h2
  ·exact .inl h2
  ·exact .inr (.inl ⟨t,ht,by omega,h2⟩)
  ·exact .inr (.inl ⟨i,hi,by omega,h2⟩)
  ·exact .inr (.inr (.inr h2))
def KM.marks (M:KM):KP:=⟨M.p,M.lv,M.wv,M.ls.mapIdx fun t x=>⟨x.v,.slice none 0 0,x.L.length,rep x.L.length (MM t),[]⟩⟩
theorem KM.marks_len:M.marks.ls.length=M.ls.length:=by simp [KM.marks]
theorem KM.marks_at {t:Nat} (h:t<M.marks.ls.length) (h':t<M.ls.length):M.marks.ls[t]=⟨M.ls[t].v,.slice none 0 0,M.ls[t].L.length,rep M.ls[t].L.length (MM t),[]⟩:=by
 simp [KM.marks]
theorem KM.marks_v:M.marks.ls.map KL.v=M.ls.map KMeta.v:=by
 apply List.ext_getElem
 ·simp [KM.marks]
 ·intro n h1 h2
  simp [KM.marks]
theorem KM.marks_own {L q:Nat} (h:M.marks.ownAt L q):∃T,M.ownAt T q∧L=if T≤2 then T else 3+2*((T-3) / 3):=by
 rcases h with ⟨rfl,h⟩|⟨rfl,h⟩|⟨rfl,h⟩|⟨t,ht,h⟩
 ·exact ⟨0,.inl ⟨rfl,h⟩,rfl⟩
 ·exact ⟨1,KM.oL h,rfl⟩
 ·exact ⟨2,KM.oW h,rfl⟩
 ·have ht':t<M.ls.length:=by rw [KM.marks_len] at ht;exact ht
  rw [KM.marks_at ht ht'] at h
  rcases h with ⟨rfl,h⟩|⟨-,h⟩
  ·refine ⟨3+3*t,KM.oV ht' h,?_⟩
   rw [if_neg (by omega)]
   omega
  ·cases h
theorem MSt.full (h:MSt w0 wr M b b' M.ls.length 0 0 K) (hM:M.In w0) (hbM:∀q,M.own q→¬b.own q):M.marks.Wk 93 23 48 8 wr∧MarkedW 48 8 wr wr M.marks MM M.marks.ls.length:=by
 have hd:∀t (ht:t<M.marks.ls.length),SRow wr 48 8 M.marks.ls[t].v M.marks.ls[t].n (rep M.marks.ls[t].n (MM t)):=fun t ht=>by
  have ht':t<M.ls.length:=by rw [KM.marks_len] at ht;exact ht
  rw [KM.marks_at ht ht']
  exact h.done t ht' ht'
 have htop:∀q,q=M.p∨M.lv.ownBlock=some q→¬((∃t,∃h:t<M.ls.length,(t<M.ls.length∨(t=M.ls.length∧0<0))∧M.ls[t].v.ownBlock=some q)∨b.own q):=fun q e=>by
  refine h.away hbM (e.elim (fun e=>⟨_,e ▸ KM.oP⟩) (fun e=>⟨_,KM.oL e⟩)) (fun t ht e2=>?_)
  rcases e with rfl|e
  ·have:=hM.one KM.oP (KM.oV ht e2);omega
  ·have:=hM.one (KM.oL e) (KM.oV ht e2);omega
 refine ⟨⟨h.upd.get hM.top (htop _ (.inl rfl)),?_,?_,?_,?_⟩,⟨fun t ht _=>hd t ht,fun t ht hl=>by omega,Upd.refl _ _⟩⟩
 ·rw [KM.marks_v,KM.marks_len]
  exact SRow.upd hM.rowL h.upd (fun q e=>htop q (.inr e))
 ·intro t ht
  have ht':t<M.ls.length:=by rw [KM.marks_len] at ht;exact ht
  have h1:=hd t ht
  rw [KM.marks_at ht ht'] at h1⊢
  exact h1
 ·intro t ht
  have ht':t<M.ls.length:=by rw [KM.marks_len] at ht;exact ht
  rw [KM.marks_at ht ht']
  have:=(hM.inn t ht').2.1
  show M.ls[t].L.length≤_
  omega
 ·obtain ⟨lab,hl⟩:=hM.lab
  refine ⟨fun q=>if lab q≤2 then lab q else 3+2*((lab q-3) / 3),fun L q hq=>?_⟩
  obtain ⟨T,h1,rfl⟩:=KM.marks_own hq
  show (if lab q≤2 then lab q else 3+2*((lab q-3) / 3))=_
  rw [hl T q h1]
structure MEnd (w0 w':World) (M:KM) (b b':KP):Prop where
 upd:Upd (fun q=>M.own q∨b.own q) w0 w'
 book:b'.B w'
 p:b'.p=b.p
 same:SameB b'
 few:b'.ls.length≤b.ls.length+2000*M.ls.length
 foot:∀q,b'.own q→b.own q∨M.own q∨w0.heap.size≤q
theorem MSt.fin (h:MSt w0 wr M b b' M.ls.length 0 0 K) (hM:M.In w0) (hbM:∀q,M.own q→¬b.own q) (hu:Upd M.marks.vown wr w'):MEnd w0 w' M b b':=by
 have hv:∀q,M.marks.vown q→∃t,∃ht:t<M.ls.length,M.ls[t].v.ownBlock=some q:=fun q e=>by
  obtain ⟨t,ht,e⟩:=e
  have ht':t<M.ls.length:=by rw [KM.marks_len] at ht;exact ht
  rw [KM.marks_at ht ht'] at e
  exact ⟨t,ht',e⟩
 refine ⟨Upd.trans (h.upd.mono (fun q _ e=>e.imp (fun ⟨t,ht,_,e⟩=>KM.own_v ht e) id)) hu (fun q _ e=>.inl (by obtain ⟨t,ht,e⟩:=hv q e;exact KM.own_v ht e)),h.book.upd hu (fun q hq e=>?_),h.bp,h.same,by have:=h.blen;omega,fun q hq=>?_⟩
 ·obtain ⟨t,ht,e⟩:=hv q e
  have h1:M.own q:=KM.own_v ht e
  rcases h.bown q hq with h2|⟨t2,ht2,_,h2⟩|⟨h2,_⟩|h2
  ·exact hbM q h1 h2
  ·exact hM.vk ht ht2 e h2
  ·exact absurd h2 (Nat.lt_irrefl _)
  ·have:=hM.lt h1;omega
 ·rcases h.bown q hq with h2|⟨t2,ht2,_,h2⟩|⟨h2,_⟩|h2
  ·exact .inl h2
  ·exact .inr (.inl (KM.own_k ht2 h2))
  ·exact absurd h2 (Nat.lt_irrefl _)
  ·exact .inr (.inr h2)
end
end Go.Proofs.YtgaidmohdhaonaaGreatDoor
