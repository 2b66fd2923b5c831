/-
  Package stratalaw10's alone and Metas.Keep, walked.
  OrdL's law 'take', its four checks in one.
  Package stratalaw10's Metas, walked: Settle.
-/
import Derived.Test.YtgaidmohdhaonaaGreatDoorLD
import Derived.Deep.RegionLaw
import Derived.Test.YtgaidmohdhaonaaGreatDoorYI
import Derived.Test.YtgaidmohdhaonaaGreatDoorYT
import Derived.StillTailTactics
set_option linter.unusedVariables false
set_option linter.unusedSimpArgs false
set_option linter.unnecessarySimpa false
set_option linter.unusedSectionVars false
set_option maxRecDepth 100000
set_option maxHeartbeats 12800000
namespace Go.Proofs.YtgaidmohdhaonaaGreatDoor
open Go Go.RowKit
theorem aloneM_any {w:World} {v:Value} {m:Int} (h:FullG w v [.int .i64 m,.int .i64 0,.int .i64 0,.int .i64 0,.int .i64 0,.int .i64 0,.slice none 0 0,.slice none 0 0]) :
  Calls Tryz.prog 105 #[v,.int .i64 m] w fun e w'=>e=.returned (.bool true)∧Drawn w w':=by
 obtain ⟨ao,n,c,rfl,hnc,hc,hf⟩:=h
 have HF:=hid hf
 clear hf
 have hb:((m:Int) != m)=false:=by simp
 go_enter Tryz.func105,Tryz.ntmps105
 go_wp2
 go_loopw [5] (fun i wr=>∃k:Nat,k≤n∧i=.int .i64 k∧Drawn w wr) (fun i _=>n-(intOf i).toNat)
 case atStart=>exact ⟨0,Nat.zero_le _,rfl,⟨Upd.refl _ _,rfl⟩⟩
 case round=>
  obtain ⟨k,hk,rfl,hdr⟩:=hrel
  have Ka:=hid hdr
  by_cases hlt:k<n
  ·obtain ⟨g,o,rfl,hg,hcell⟩:=HF.out k hlt
   have d0:wr.cell? ⟨g,o+k*8,none⟩=some (.int .i64 m):=by rw [hdr.cell];have h0:=hcell 0 (by simp);simpa using h0
   have d6:wr.cell? ⟨g,o+k*8+6,none⟩=some (.slice none 0 0):=by rw [hdr.cell];have h0:=hcell 6 (by simp);simpa [Nat.add_assoc] using h0
   have d7:wr.cell? ⟨g,o+k*8+7,none⟩=some (.slice none 0 0):=by rw [hdr.cell];have h0:=hcell 7 (by simp);simpa [Nat.add_assoc] using h0
   have hgr:g<wr.heap.size:=by rw [hdr.2];exact hg
   clear hdr hcell
   go_wp2_with fail
   go_quiet (fail)
   go_wp2
   go_roundw
   case rel=>exact ⟨k+1,by omega,by go_num,Ka.out.drewN _⟩
   case measure=>simp [intOf];omega
  ·obtain rfl:k=n:=by omega
   clear hdr
   go_wp2
   go_ret
   exact ⟨rfl,Ka.out⟩
theorem keepM_any {w:World} {k:KM} {v:Value} {L:List MV} (hk:k.In w) (hv:RunsOwn w 0 v L) (hnd:(keyBlocks L).Nodup) (hin:VerIn (verM L)∧L.length≤1000∧∀y∈L,y.m.first.length≤1000000000∧y.m.last.length≤1000000000)
  (hvo:∀q,(v.ownBlock=some q∨q∈keyBlocks L)→¬k.own q) (hN:k.ls.length≤1000000) :
  Calls Tryz.prog 45 #[.pointer (some ⟨k.p,0,none⟩),v] w fun e w'=>e=.returned (.tuple #[])∧∃k',KMStep w w' k k' v L:=by
 have hvr:=SRow.of_owns hv.row
 obtain ⟨lv',w2,hrun2,r2,u2,o2,-⟩:=rowMetass.push (w:=w) (M:=[v]) hk.rowL rfl (fun x hx=>by simp at hx;subst hx;exact SRow.one hvr) (by omega) 45
 have htop:=hk.top
 have hp:=lt_of_heap htop
 have pl:¬k.lv.ownBlock=some k.p:=fun e=>by have:=hk.one KM.oP (KM.oL e);omega
 have pw:¬k.wv.ownBlock=some k.p:=fun e=>by have:=hk.one KM.oP (KM.oW e);omega
 have lw:∀q,k.wv.ownBlock=some q→¬k.lv.ownBlock=some q:=fun q e1 e2=>by have:=hk.one (KM.oL e2) (KM.oW e1);omega
 have t2:=u2.get htop pl
 have t3:=heap_setCell_at w2 k.p 0 _ _ lv' t2
 have f0:w2.frozen? ⟨k.p,0,none⟩=false:=frozen_of_row _ _ _ _ _ t2
 obtain ⟨la,lc,hls,hl1,hl2,-⟩:=SRow.slice hk.rowL
 obtain ⟨wa,wc,hws,hw1,hw2,-⟩:=SRow.slice hk.rowW
 obtain ⟨la2,lc2,hls2,-,-,-⟩:=SRow.slice r2
 obtain ⟨va,vc,hvs,-,-,-⟩:=SRow.slice hvr
 have c0:w.cell? ⟨k.p,0,none⟩=some (.slice la k.ls.length lc):=by rw [cell_of_row w _ 0 _ _ _ htop,←hls];rfl
 have d0:w2.cell? ⟨k.p,0,none⟩=some (.slice la k.ls.length lc):=by rw [cell_of_row _ _ 0 _ _ _ t2,←hls];rfl
 have c1:(w2.setCell ⟨k.p,0,none⟩ lv').cell? ⟨k.p,1,none⟩=some (.slice wa k.ls.length wc):=by rw [cell_of_row _ _ 1 _ _ _ t3,←hws];rfl
 have hp2:k.p<w2.heap.size:=lt_of_heap t2
 have hS:∀q,(q=k.p∨k.lv.ownBlock=some q)→k.own q:=fun q e=>by
  rcases e with rfl|e
  ·exact ⟨_,KM.oP⟩
  ·exact ⟨_,KM.oL e⟩
 have hu23:Upd (fun q=>q=k.p∨k.lv.ownBlock=some q) w (w2.setCell ⟨k.p,0,none⟩ lv').drew:=((u2.mono (T:=fun q=>q=k.p∨k.lv.ownBlock=some q) (fun _ _ e=>.inr e)).setCell (p:=⟨k.p,0,none⟩) (fun _=>.inl rfl) _).drew
 have hv3:RunsOwn (w2.setCell ⟨k.p,0,none⟩ lv').drew 0 v L:=hv.upd hu23 (fun q hq e=>hvo q (.inl hq) (hS q e)) (fun q hq e=>hvo q (.inr hq) (hS q e))
 obtain ⟨N2,hN2⟩:∃N2,N2=k.ls.length+1:=⟨_,rfl⟩
 have hcop:Calls Tryz.prog 16 #[.agg #[.int .i64 0,.int .i64 0,.int .i64 0,.int .i64 0,.int .i64 0,.slice none 0 0,v]] (w2.setCell ⟨k.p,0,none⟩ lv').drew fun e w3=>∃x0 x1 x2 x3 x4 x5 x6 wa4 wc4 w4,e=.returned (.agg #[x0,x1,x2,x3,x4,x5,x6])∧w3.cell? ⟨k.p,1,none⟩=some (.slice wa k.ls.length wc)∧k.p<w3.heap.size∧
   (Builtin.append_ #[76,76] 76 #[.slice wa k.ls.length wc,.slice (some ⟨w3.heap.size,0,none⟩) 1 1]).run Tryz.prog (w3.alloc (.cells #[x0,x1,x2,x3,x4,x5,x6] 25))=.ok (.slice wa4 N2 wc4) w4∧
   w4.cell? ⟨k.p,1,none⟩=some (.slice wa k.ls.length wc)∧w4.frozen? ⟨k.p,1,none⟩=false∧k.p<w4.heap.size∧∃k',KMStep w (w4.setCell ⟨k.p,1,none⟩ (.slice wa4 N2 wc4)) k k' v L:=by
  have hva:=verOf (a1:=0) (a2:=0) (a3:=0) (a4:=0) (a5:=0) (show DataIs (w2.setCell ⟨k.p,0,none⟩ lv').drew (.slice none 0 0) [] from .inl ⟨rfl,rfl⟩) hv3
  refine (copied_any (x:=verM L) hva hin.1).mono ?_
  rintro e w3 ⟨u,rfl,hu,hu3⟩
  obtain ⟨uc,uo,rfl,hco,huo⟩:=CopyOk.of hu
  obtain ⟨x0,x1,x2,x3,x4,x5,x6,rfl⟩:=cells7 hco.len
  have hu3b:Upd (fun _=>False) (w2.setCell ⟨k.p,0,none⟩ lv') w3:=((Upd.refl (fun _=>False) _).drew).trans hu3 (fun _ _ e=>e)
  have hrW3:SRow w3 25 7 k.wv k.ls.length (k.ls.flatMap KMeta.uc):=SRow.upd (SRow.upd (SRow.upd hk.rowW u2 (fun q e=>lw q e)) (Upd.cell_only w2 k.p 0 lv') (fun q e e2=>pw (e2 ▸ e))) hu3b (fun _ _ e=>e)
  have t3':=hu3b.get t3 (fun e=>e)
  obtain ⟨wv',w4,hrun4,r4,u4,o4,-⟩:=rowVers.push (w:=w3) (M:=[x0,x1,x2,x3,x4,x5,x6]) hrW3 rfl hco.one (by omega) 76
  have t4:=u4.get t3' pw
  have h9:((w2.setCell ⟨k.p,0,none⟩ lv').drew).heap.size=w2.heap.size:=by show (w2.setCell ⟨k.p,0,none⟩ lv').heap.size=_;simp
  have hfin:=hk.kept hv hnd hin hvo r2 u2 o2 hu3b hco (fun q hq=>by have:=huo q hq;omega) r4 u4 o4
  obtain ⟨wa2,wc2,hws2,-,-,-⟩:=SRow.slice r4
  rw [hws,hws2,←hN2] at hrun4
  rw [hws2,←hN2] at hfin
  exact ⟨x0,x1,x2,x3,x4,x5,x6,wa2,wc2,w4,rfl,by rw [cell_of_row _ _ 1 _ _ _ t3',←hws];rfl,lt_of_heap t3',hrun4,by rw [cell_of_row _ _ 1 _ _ _ t4,←hws];rfl,frozen_of_row _ _ _ _ _ t4,lt_of_heap t4,_,hfin⟩
 rw [hls2,←hN2] at hrun2 hcop c1
 rw [hls] at hrun2
 rw [hvs] at hrun2 hcop⊢
 have hrun2':(Builtin.append_ #[45,45] 45 #[.slice la k.ls.length lc,.slice (some ⟨w.heap.size,0,none⟩) 1 1]).run Tryz.prog (w.alloc (.cells #[.slice va L.length vc] 23))=.ok (.slice la2 N2 lc2) w2:=hrun2
 obtain ⟨p,hpp⟩:∃p,p=k.p:=⟨_,rfl⟩
 obtain ⟨N,hNN⟩:∃N,N=k.ls.length:=⟨_,rfl⟩
 obtain ⟨n,hnn⟩:∃n,n=L.length:=⟨_,rfl⟩
 have hn:=hin.2.1
 rw [←hpp] at c0 d0 c1 f0 hp hp2 hcop⊢
 rw [←hNN] at c0 d0 c1 hcop hrun2' hl1 hw1 hN
 rw [←hnn] at hrun2' hcop hn⊢
 obtain ⟨w3,hw3⟩:∃w3,w3=w2.setCell ⟨p,0,none⟩ (.slice la2 N2 lc2):=⟨_,rfl⟩
 have hp3:p<w3.heap.size:=by rw [hw3];simpa using hp2
 rw [←hw3] at c1 hcop
 have Kb:=hid hrun2';have Ka:=hid hcop;have Kc:=hid hw3
 clear hrun2 hrun2' hcop hw3 hvr r2 u2 o2 htop pl pw lw t2 t3 hls hws hls2 hvs hu23 hv3 hN2 hpp hNN hnn hk hv hvo hin hnd hS
 go_enter Tryz.func45,Tryz.ntmps45
 go_upto_region 1 with (at_builtin;refine wpList_append_run rfl _ _ _ rfl rfl rfl Kb.out ?_)
 rw [←Kc.out]
 go_region_law (first|(go_simp;go_at_call 16;refine Ka.out.mono ?_;rintro e w5 ⟨x0,x1,x2,x3,x4,x5,x6,wa4,wc4,w4,rfl,t1,t2,hr,t3,t4,t5,hF⟩)|(refine step_append_eq rfl (.tmp 18) (.tmp 22) 76 rfl rfl rfl hr ?_))
 all_goals
  go_end0
  exact ⟨rfl,hF⟩
end Go.Proofs.YtgaidmohdhaonaaGreatDoor
namespace Go.Proofs.YtgaidmohdhaonaaGreatDoor
open Go
section
variable {P:Program} {Q:Exit→Act→World→Prop} {md:Region.Mode} {S:World→Prop} {z:Nat}
theorem wpAnyL_takeB {l:List Oper} (i:Nat) (late:List Nat) {oi:Oper} {v:Value} {fuel:Nat} {listed:Array Bool} {a:Act} {w:World} (hi:l[i]? = some oi)
  (hb:(Region.noSelect l.toArray&&Region.free md l.toArray listed i&&(Region.ready md l.toArray listed).contains i&&lateB md l.toArray listed i late)=true) (hz:z∈late)
  (hQ:∀c a w,Q (.panic c) (a.put oi.dst v) w→Q (.panic c) a w) (hy:Region.wanted oi (yielded l.toArray a.tmps)=true∧∀w,S w→(execOp a.eval oi).run P w=.ok (.value v) w) (hS:S w)
  (h:wpAnyL P md l.toArray Q S z fuel (listed.setIfInBounds i true) (a.put oi.dst v) w):wpAnyL P md l.toArray Q S z (fuel+1) listed a w:=by
 simp only [Bool.and_eq_true] at hb
 obtain ⟨⟨⟨h1,h2⟩,h3⟩,h4⟩:=hb
 exact wpAnyL_take i late hi h1 h2 h3 h4 hz hQ (Or.inl hy) hS h
theorem tk (i:Nat) (late:List Nat) {l:List Oper} {oi:Oper} {v:Value} {fuel:Nat} {listed:Array Bool} {a:Act} {w:World}
  (hi:l[i]? = some oi:=by rfl)
  (hb:(Region.noSelect l.toArray&&Region.free md l.toArray listed i&&(Region.ready md l.toArray listed).contains i&&lateB md l.toArray listed i late)=true:=by kernel_rfl) (hz:z∈late:=by simp)
  (hw:Region.wanted oi (yielded l.toArray a.tmps)=true:=by rfl) (y:∀w,S w→(execOp a.eval oi).run P w=.ok (.value v) w) (hS:S w:=by assumption)
  (r:wpAnyL P md l.toArray Q S z fuel (listed.setIfInBounds i true) (a.put oi.dst v) w)
  (hQ:∀c a w,Q (.panic c) (a.put oi.dst v) w→Q (.panic c) a w:=by exact fun _ _ _ h=>h):wpAnyL P md l.toArray Q S z (fuel+1) listed a w:=
 wpAnyL_takeB i late hi hb hz hQ ⟨hw,y⟩ hS r
theorem sA {α:Type} (l:List α) (i:Nat) (a:α):l.toArray.setIfInBounds i a=(l.set i a).toArray:=List.setIfInBounds_toArray l i a
theorem sZ {α:Type} (x a:α) (l:List α):(x :: l).set 0 a=a :: l:=List.set_cons_zero
theorem sS {α:Type} (x a:α) (l:List α) (n:Nat):(x :: l).set (n+1) a=x :: l.set n a:=List.set_cons_succ
end
end Go.Proofs.YtgaidmohdhaonaaGreatDoor
namespace Go.Proofs.YtgaidmohdhaonaaGreatDoor
open Go Go.RowKit
def MX (m:Int):List Value:=[.int .i64 m,.int .i64 0,.int .i64 0,.int .i64 0,.int .i64 0,.int .i64 0,.slice none 0 0,.slice none 0 0]
theorem MM_eq (i:Nat):MM i=MX (-100-(i:Int)):=rfl
theorem meta_setM {w : World} {v : Value} {n k : Nat} {xs : List Value} (h : SRow w 48 8 v n xs) (hk : k < n) (m : Int) :
    ∃g cap,v=.slice (some ⟨g,0,none⟩) n cap∧g<w.heap.size∧(∀j,j<8→(∃u,w.cell? ⟨g,k*8+j,none⟩=some u)∧w.frozen? ⟨g,k*8+j,none⟩=false)∧
      SRow ((((((((w.setCell ⟨g,k*8,none⟩ (.int .i64 m)).setCell ⟨g,k*8+1,none⟩ (.int .i64 0)).setCell ⟨g,k*8+2,none⟩ (.int .i64 0)).setCell ⟨g,k*8+3,none⟩ (.int .i64 0)).setCell ⟨g,k*8+4,none⟩ (.int .i64 0)).setCell ⟨g,k*8+5,none⟩ (.int .i64 0)).setCell ⟨g,k*8+6,none⟩ (.slice none 0 0)).setCell ⟨g,k*8+7,none⟩ (.slice none 0 0)) 48 8 v n
        ((((((((xs.set (k*8) (.int .i64 m)).set (k*8+1) (.int .i64 0)).set (k*8+2) (.int .i64 0)).set (k*8+3) (.int .i64 0)).set (k*8+4) (.int .i64 0)).set (k*8+5) (.int .i64 0)).set (k*8+6) (.slice none 0 0)).set (k*8+7) (.slice none 0 0)):=by
  have st:∀ {w:World} {xs:List Value} (g cap:Nat) (j:Nat) (u:Value),SRow w 48 8 (.slice (some ⟨g,0,none⟩) n cap) n xs→j<8→SRow (w.setCell ⟨g,k*8+j,none⟩ u) 48 8 (.slice (some ⟨g,0,none⟩) n cap) n (xs.set (k*8+j) u):=by
    intro w xs g cap j u h hj
    obtain ⟨g',cap',old,e,hs,-⟩:=SRow.set (m:=k*8+j) (u:=u) h (by omega)
    injection e with e1 _ _
    injection e1 with e1
    injection e1 with e1
    subst e1
    exact hs
  obtain ⟨g,cap,old,rfl,-,hgl,hold,-⟩:=id (SRow.set (m:=k*8) (u:=.int .i64 m) h (by omega))
  have h0:=st g cap 0 (.int .i64 m) h (by omega)
  have h1:=st g cap 1 (.int .i64 0) h0 (by omega)
  have h2:=st g cap 2 (.int .i64 0) h1 (by omega)
  have h3:=st g cap 3 (.int .i64 0) h2 (by omega)
  have h4:=st g cap 4 (.int .i64 0) h3 (by omega)
  have h5:=st g cap 5 (.int .i64 0) h4 (by omega)
  have h6:=st g cap 6 (.slice none 0 0) h5 (by omega)
  have h7:=st g cap 7 (.slice none 0 0) h6 (by omega)
  refine ⟨g,cap,rfl,?_,fun j hj=>?_,h7⟩
  · rcases h.2 with ⟨e,-⟩|⟨g',c',cur,e,hg,-⟩
    · cases e
    · injection e with e1 _ _;injection e1 with e1;injection e1 with e1;subst e1;exact lt_of_heap hg
  · rcases h.2 with ⟨e,-⟩|⟨g',c',cur,e,hg,q1,q2,q3,q4⟩
    · cases e
    · injection e with e1 _ _;injection e1 with e1;injection e1 with e1;subst e1
      refine ⟨?_,frozen_of_row _ _ _ _ _ hg⟩
      rw [cell_of_row w g _ _ _ _ hg]
      have hlen : k * 8 + j < cur.size := by have := h.1; have : (cur.toList.take (n * 8)).length ≤ cur.size := by rw [List.length_take, Array.length_toList]; omega
                                             rw [q4] at this; omega
      exact ⟨_,Array.getElem?_eq_getElem hlen⟩
theorem rep_set8M {ys:List Value} {k n:Nat} (hl:ys.length=n*8) (hk:k<n) (m:Int) :
  ((((((((((rep k (MX m)++ys.drop (k*8)).set (k*8) (.int .i64 m)).set (k*8+1) (.int .i64 0)).set (k*8+2) (.int .i64 0)).set (k*8+3) (.int .i64 0)).set (k*8+4) (.int .i64 0)).set (k*8+5) (.int .i64 0)).set (k*8+6) (.slice none 0 0)).set (k*8+7) (.slice none 0 0)))=rep (k+1) (MX m)++ys.drop ((k+1)*8):=by
 have hr:(rep k (MX m)).length=k*8:=by rw [rep_length];rfl
 obtain ⟨b0,b1,b2,b3,b4,b5,b6,b7,B,hB⟩:∃b0 b1 b2 b3 b4 b5 b6 b7 B,ys.drop (k*8)=b0 :: b1 :: b2 :: b3 :: b4 :: b5 :: b6 :: b7 :: B:=by
  have hd:(ys.drop (k*8)).length=(n-k)*8:=by rw [List.length_drop,hl,Nat.sub_mul]
  have h8:8≤(ys.drop (k*8)).length:=by rw [hd];omega
  match ys.drop (k*8),h8 with
  | b0 :: b1 :: b2 :: b3 :: b4 :: b5 :: b6 :: b7 :: B,_=>exact ⟨b0,b1,b2,b3,b4,b5,b6,b7,B,rfl⟩
 have hB2:ys.drop ((k+1)*8)=B:=by
  rw [show (k+1)*8=k*8+8 by omega,←List.drop_drop,hB]
  rfl
 rw [hB2,hB,rep_succ]
 generalize rep k (MX m)=A at hr⊢
 rw [List.set_append_right _ _ (by omega),List.set_append_right _ _ (by omega),List.set_append_right _ _ (by omega),List.set_append_right _ _ (by omega),List.set_append_right _ _ (by omega),List.set_append_right _ _ (by omega),List.set_append_right _ _ (by omega),List.set_append_right _ _ (by omega)]
 simp only [hr,Nat.sub_self,Nat.add_sub_cancel_left,List.set_cons_zero,List.set_cons_succ,List.append_assoc,MX,List.cons_append,List.nil_append]
theorem flat_getM {α β:Type} (f:α→List β) (m:Nat):∀(l:List α) (_:∀a∈l,(f a).length=m) (k:Nat) (hk:k<l.length) (j:Nat),j<m→(l.flatMap f)[k*m+j]? = (f l[k])[j]?
 | [],_,k,hk,j,hj=>absurd hk (by simp)
 | a :: l,hm,0,hk,j,hj=>by
  rw [List.flatMap_cons,Nat.zero_mul,Nat.zero_add,List.getElem?_append_left (by rw [hm a (by simp)];exact hj)]
  rfl
 | a :: l,hm,k+1,hk,j,hj=>by
  rw [List.flatMap_cons,List.getElem?_append_right (by rw [hm a (by simp),Nat.succ_mul];omega),hm a (by simp),show (k+1)*m+j-m=k*m+j from by rw [Nat.succ_mul];omega]
  rw [flat_getM f m l (fun b hb=>hm b (by simp [hb])) k (by simpa using hk) j hj]
  rfl
theorem metas_key {A B:List Value} {x:MV} {m:Nat} (hA:A.length=m):(A++(x.cells++B))[m+6]? = some x.f∧(A++(x.cells++B))[m+7]? = some x.l:=by
 subst hA
 constructor
 ·rw [List.getElem?_append_right (by omega)];simp [MV.cells]
 ·rw [List.getElem?_append_right (by omega)];simp [MV.cells]
theorem settleM_any {w:World} {M:KM} {b:KP} (hM:M.In w) (hb:b.B w) (hs:SameB b) (hbM:∀q,M.own q→¬b.own q) (hN:b.ls.length+2000*M.ls.length≤1000000) :
  Calls Tryz.prog 47 #[.pointer (some ⟨M.p,0,none⟩),.pointer (some ⟨b.p,0,none⟩)] w fun e w'=>e=.returned (.bool true)∧∃b',MEnd w w' M b b':=by
 obtain ⟨la,lc,hlv,hl1,hl2,hla⟩:=SRow.slice hM.rowL
 obtain ⟨wa,wc,hws,hw1,hw2,hwa⟩:=SRow.slice hM.rowW
 have Ka:=hid hM;have Ke:=hid hbM;have Kw:=hid hb;have Zy:=hid hs
 obtain ⟨N,hNN⟩:∃N,N=M.ls.length:=⟨_,rfl⟩
 have HN:=hid hNN
 rw [←hNN] at hl1 hw1 hN
 have Kd:=hid (show ∀(i c:Nat) (wr:World),Upd (fun q=>(∃t,∃h:t<M.ls.length,(t<i∨(t=i∧0<c))∧M.ls[t].v.ownBlock=some q)∨b.own q) w wr→wr.cell? ⟨M.p,0,none⟩=some (.slice la N lc)∧wr.cell? ⟨M.p,1,none⟩=some (.slice wa N wc)∧M.p<wr.heap.size∧
   ∀j (hj:j<M.ls.length),(∃ga,la=some ⟨ga,0,none⟩∧ga<wr.heap.size∧wr.cell? ⟨ga,j,none⟩=some M.ls[j].v)∧∃gw,wa=some ⟨gw,0,none⟩∧gw<wr.heap.size∧∀t,t<7→wr.cell? ⟨gw,j*7+t,none⟩=M.ls[j].uc[t]? from fun i c wr h=>by
  have hout:∀q,M.own q→(∀t (ht:t<M.ls.length),¬M.ls[t].v.ownBlock=some q)→¬((∃t,∃h:t<M.ls.length,(t<i∨(t=i∧0<c))∧M.ls[t].v.ownBlock=some q)∨b.own q):=by
   rintro q hq h1 (⟨t,ht,-,e⟩|e)
   ·exact h1 t ht e
   ·exact hbM q hq e
  have t1:=h.get hM.top (hout _ ⟨_,KM.oP⟩ (fun t ht e=>by have:=hM.one KM.oP (KM.oV ht e);omega))
  have t2:=hM.rowL.upd h (fun q hq=>hout q ⟨_,KM.oL hq⟩ (fun t ht e=>by have:=hM.one (KM.oL hq) (KM.oV ht e);omega))
  have t3:=hM.rowW.upd h (fun q hq=>hout q ⟨_,KM.oW hq⟩ (fun t ht e=>by have:=hM.one (KM.oW hq) (KM.oV ht e);omega))
  refine ⟨?_,?_,lt_of_heap t1,fun j hj=>⟨?_,?_⟩⟩
  ·rw [cell_of_row wr M.p 0 _ _ _ t1,hNN,←hlv];rfl
  ·rw [cell_of_row wr M.p 1 _ _ _ t1,hNN,←hws];rfl
  ·obtain ⟨g,c',e,e1,e2⟩:=t2.cell (k:=j) (u:=M.ls[j].v) (by rw [List.getElem?_map,List.getElem?_eq_getElem hj];rfl)
   rw [hlv] at e
   injection e with e _ _
   exact ⟨g,e,e1,e2⟩
  ·have h7:∀a∈M.ls,(KMeta.uc a).length=7:=fun a ha=>by
    obtain ⟨t,ht,rfl⟩:=List.getElem_of_mem ha
    exact (hM.was t ht).len
   have hat:∀t,t<7→∃g,wa=some ⟨g,0,none⟩∧g<wr.heap.size∧wr.cell? ⟨g,j*7+t,none⟩=M.ls[j].uc[t]?:=fun t ht=>by
    have hx:=flat_getM KMeta.uc 7 M.ls h7 j hj t ht
    have hlt9:t<M.ls[j].uc.length:=by rw [(hM.was j hj).len];exact ht
    have hl:=List.getElem?_eq_getElem hlt9
    rw [hl] at hx⊢
    obtain ⟨g,c',e,e1,e2⟩:=t3.cell hx
    rw [hws] at e
    injection e with e _ _
    exact ⟨g,e,e1,e2⟩
   obtain ⟨g,e,e1,-⟩:=hat 0 (by omega)
   refine ⟨g,e,e1,fun t ht=>?_⟩
   obtain ⟨g',e',-,e2⟩:=hat t ht
   rw [e] at e'
   injection e' with e'
   injection e' with e'
   subst e'
   exact e2)
 have Zi:=hid (MSt.start hM hb hs)
 have Zj:=hid hN
 clear hM hbM hb hs hlv hws hla hwa hNN
 go_enter Tryz.func47,Tryz.ntmps47
 go_wp2
 go_loopw [5] (fun i wr=>∃j:Nat,j≤N∧i=.int .i64 j∧∃b',MSt w wr M b b' j 0 0 []) (fun i _=>N-(intOf i).toNat)
 case atStart=>exact ⟨0,Nat.zero_le _,rfl,b,Zi.out⟩
 case round=>
  obtain ⟨j,hj,rfl,b',hst⟩:=hrel
  have Zk:=hid hst
  obtain ⟨c0,c1,hp,hcell⟩:=Kd.out _ _ _ hst.upd
  by_cases hlt:j<N
  ·have hlt':j<M.ls.length:=by have:=HN.out;omega
   obtain ⟨⟨ga,rfl,hg,d0⟩,⟨gw,rfl,hgw,d1⟩⟩:=hcell j hlt'
   obtain ⟨hf1,hf2⟩:=hst.list Ka.out Ke.out hlt'
   have hsm:=(Ka.out.inn j hlt').2.1
   obtain ⟨x0,x1,x2,x3,x4,x5,x6,hx⟩:=cells7 (Ka.out.was j hlt').len
   have y0:=d1 0 (by omega);have y1:=d1 1 (by omega);have y2:=d1 2 (by omega);have y3:=d1 3 (by omega);have y4:=d1 4 (by omega);have y5:=d1 5 (by omega);have y6:=d1 6 (by omega)
   rw [hx] at hf2 y0 y1 y2 y3 y4 y5 y6
   simp only [Nat.add_zero,List.getElem?_cons_zero,List.getElem?_cons_succ] at y0 y1 y2 y3 y4 y5 y6
   obtain ⟨v,hv⟩:∃v,v=M.ls[j].v:=⟨_,rfl⟩
   obtain ⟨n,hn⟩:∃n,n=M.ls[j].L.length:=⟨_,rfl⟩
   have HV:=hid hv;have Kp:=hid hn
   rw [←hv] at d0 hf1
   obtain ⟨va,vc,hvs,hv1,hv2,-⟩:=(SRow.of_owns hf1.row).slice
   rw [←hn] at hvs hv1
   have hn1000:n≤1000:=by rw [hn];exact hsm
   have hsf:Calls Tryz.prog 24 #[.agg #[.int .i64 0,.int .i64 0,.int .i64 0,.int .i64 0,.int .i64 0,.slice none 0 0,v],.agg #[x0,x1,x2,x3,x4,x5,x6]] wr.drew fun e w'=>e=.returned (.bool true)∧Upd (fun _=>False) wr w':=by
    have hva:=verOf (a1:=0) (a2:=0) (a3:=0) (a4:=0) (a5:=0) (show DataIs wr (.slice none 0 0) [] from .inl ⟨rfl,rfl⟩) hf1
    refine (sameVer_any (hva.keep ((Upd.refl _ wr).drew)) (hf2.keep ((Upd.refl _ wr).drew)) (by show (M.ls[j].L.map MV.m).length≤_;rw [List.length_map];omega)).mono ?_
    rintro e V' ⟨rfl,hu⟩
    have h9:sameVerB (verM M.ls[j].L) (verM M.ls[j].L)=true:=sameVerB_iff.2 rfl
    exact ⟨congrArg (fun b=>Ending.returned (.bool b)) h9,((Upd.refl _ wr).drew).trans hu (fun _ _ e=>e)⟩
   rw [hvs] at d0 hsf
   have Zl:=hid hsf;have Kc:=hid hvs
   have Kx:=hid (show ∀V,Upd (fun _=>False) wr V→(fun V=>V.cell? ⟨M.p,0,none⟩=some (.slice (some ⟨ga,0,none⟩) N lc)∧V.cell? ⟨M.p,1,none⟩=some (.slice (some ⟨gw,0,none⟩) N wc)∧V.cell? ⟨ga,j,none⟩=some (.slice va n vc)∧V.cell? ⟨gw,j*7,none⟩=some x0∧V.cell? ⟨gw,j*7+1,none⟩=some x1∧V.cell? ⟨gw,j*7+2,none⟩=some x2∧V.cell? ⟨gw,j*7+3,none⟩=some x3∧V.cell? ⟨gw,j*7+4,none⟩=some x4∧V.cell? ⟨gw,j*7+5,none⟩=some x5∧V.cell? ⟨gw,j*7+6,none⟩=some x6) V from fun V hV=>⟨hV.cell hp c0,hV.cell hp c1,hV.cell hg d0,hV.cell hgw y0,hV.cell hgw y1,hV.cell hgw y2,hV.cell hgw y3,hV.cell hgw y4,hV.cell hgw y5,hV.cell hgw y6⟩)
   clear hst hcell hf1 hf2 hv hn hvs hsf hsm d1 hx
   go_upto_region 4 with fail
   have hHeld:(fun V=>V.cell? ⟨M.p,0,none⟩=some (.slice (some ⟨ga,0,none⟩) N lc)∧V.cell? ⟨M.p,1,none⟩=some (.slice (some ⟨gw,0,none⟩) N wc)∧V.cell? ⟨ga,j,none⟩=some (.slice va n vc)∧V.cell? ⟨gw,j*7,none⟩=some x0∧V.cell? ⟨gw,j*7+1,none⟩=some x1∧V.cell? ⟨gw,j*7+2,none⟩=some x2∧V.cell? ⟨gw,j*7+3,none⟩=some x3∧V.cell? ⟨gw,j*7+4,none⟩=some x4∧V.cell? ⟨gw,j*7+5,none⟩=some x5∧V.cell? ⟨gw,j*7+6,none⟩=some x6) wr.drew:=Kx.out _ ((Upd.refl _ wr).drew)
   refine wp_region_l (fun V=>V.cell? ⟨M.p,0,none⟩=some (.slice (some ⟨ga,0,none⟩) N lc)∧V.cell? ⟨M.p,1,none⟩=some (.slice (some ⟨gw,0,none⟩) N wc)∧V.cell? ⟨ga,j,none⟩=some (.slice va n vc)∧V.cell? ⟨gw,j*7,none⟩=some x0∧V.cell? ⟨gw,j*7+1,none⟩=some x1∧V.cell? ⟨gw,j*7+2,none⟩=some x2∧V.cell? ⟨gw,j*7+3,none⟩=some x3∧V.cell? ⟨gw,j*7+4,none⟩=some x4∧V.cell? ⟨gw,j*7+5,none⟩=some x5∧V.cell? ⟨gw,j*7+6,none⟩=some x6) 16 17 rfl (by kernel_rfl) ?_
   refine' tk 0 [1,2,3,5,6,7,15,16] (y:=?y4_0) (r:=?r4_0)
   case y4_0=>(intro wS hSw;go_simp;(try with_reducible rfl))
   (try simp only [Act.put,sA,sZ,sS])
   refine' tk 1 [2,3,5,6,7,15,16] (y:=?y4_1) (r:=?r4_1)
   case y4_1=>(intro wS hSw;go_simp;(try with_reducible rfl))
   (try simp only [Act.put,sA,sZ,sS])
   refine' tk 2 [3,5,6,7,15,16] (y:=?y4_2) (r:=?r4_2)
   case y4_2=>(intro wS hSw;go_simp;(try with_reducible rfl))
   (try simp only [Act.put,sA,sZ,sS])
   refine' tk 3 [5,6,7,15,16] (y:=?y4_3) (r:=?r4_3)
   case y4_3=>(intro wS hSw;obtain ⟨g0,-⟩:=hSw;go_simp;(try with_reducible rfl))
   (try simp only [Act.put,sA,sZ,sS])
   refine' tk 4 [5,6,7,15,16] (y:=?y4_4) (r:=?r4_4)
   case y4_4=>(intro wS hSw;go_simp;(try with_reducible rfl))
   (try simp only [Act.put,sA,sZ,sS])
   refine' tk 5 [6,7,15,16] (y:=?y4_5) (r:=?r4_5)
   case y4_5=>(intro wS hSw;go_simp;(try with_reducible rfl))
   (try simp only [Act.put,sA,sZ,sS])
   refine' tk 6 [7,15,16] (y:=?y4_6) (r:=?r4_6)
   case y4_6=>(intro wS hSw;obtain ⟨-,-,g2,-⟩:=hSw;go_simp;(try with_reducible rfl))
   (try simp only [Act.put,sA,sZ,sS])
   refine' tk 7 [15,16] (y:=?y4_7) (r:=?r4_7)
   case y4_7=>(intro wS hSw;go_simp;(try with_reducible rfl))
   (try simp only [Act.put,sA,sZ,sS])
   refine' tk 8 [9,10,11,13,14,15,16] (y:=?y4_8) (r:=?r4_8)
   case y4_8=>(intro wS hSw;go_simp;(try with_reducible rfl))
   (try simp only [Act.put,sA,sZ,sS])
   refine' tk 9 [10,11,13,14,15,16] (y:=?y4_9) (r:=?r4_9)
   case y4_9=>(intro wS hSw;go_simp;(try with_reducible rfl))
   (try simp only [Act.put,sA,sZ,sS])
   refine' tk 10 [11,13,14,15,16] (y:=?y4_10) (r:=?r4_10)
   case y4_10=>(intro wS hSw;go_simp;(try with_reducible rfl))
   (try simp only [Act.put,sA,sZ,sS])
   refine' tk 11 [13,14,15,16] (y:=?y4_11) (r:=?r4_11)
   case y4_11=>(intro wS hSw;obtain ⟨-,g1,-⟩:=hSw;go_simp;(try with_reducible rfl))
   (try simp only [Act.put,sA,sZ,sS])
   refine' tk 12 [13,14,15,16] (y:=?y4_12) (r:=?r4_12)
   case y4_12=>(intro wS hSw;go_simp;(try with_reducible rfl))
   (try simp only [Act.put,sA,sZ,sS])
   refine' tk 13 [14,15,16] (y:=?y4_13) (r:=?r4_13)
   case y4_13=>(intro wS hSw;go_simp;(try with_reducible rfl))
   (try simp only [Act.put,sA,sZ,sS])
   refine' tk 14 [15,16] (y:=?y4_14) (r:=?r4_14)
   case y4_14=>(intro wS hSw;obtain ⟨-,-,-,r0,r1,r2,r3,r4,r5,r6⟩:=hSw;go_simp;(try with_reducible rfl))
   (try simp only [Act.put,sA,sZ,sS])
   refine wpAnyL_one 15 rfl (by kernel_rfl) (fun K hK=>?_)
   go_simp
   go_at_call 24
   refine Zl.out.mono ?_
   rintro e w6 ⟨rfl,hu6⟩
   have hHeld6:(fun V=>V.cell? ⟨M.p,0,none⟩=some (.slice (some ⟨ga,0,none⟩) N lc)∧V.cell? ⟨M.p,1,none⟩=some (.slice (some ⟨gw,0,none⟩) N wc)∧V.cell? ⟨ga,j,none⟩=some (.slice va n vc)∧V.cell? ⟨gw,j*7,none⟩=some x0∧V.cell? ⟨gw,j*7+1,none⟩=some x1∧V.cell? ⟨gw,j*7+2,none⟩=some x2∧V.cell? ⟨gw,j*7+3,none⟩=some x3∧V.cell? ⟨gw,j*7+4,none⟩=some x4∧V.cell? ⟨gw,j*7+5,none⟩=some x5∧V.cell? ⟨gw,j*7+6,none⟩=some x6) w6:=Kx.out _ hu6
   have Zm:=hid hu6
   clear hu6
   refine hK.out _ _ (fun _=>hHeld6) ?_
   clear hK K
   (try simp only [Act.put,sA,sZ,sS])
   refine wpAnyL_one 16 rfl (by kernel_rfl) (fun K hK=>?_)
   go_simp
   refine hK.out _ _ (fun h=>absurd rfl h) ?_
   clear hK K
   (try simp only [Act.put,sA,sZ,sS])
   refine wpAnyL_done (by kernel_rfl) ?_ _
   have Kn:=hid (Zk.out.keep Zm.out)
   obtain ⟨c0',c1',hp',hcell'⟩:=Kd.out _ _ _ Kn.out.upd
   obtain ⟨⟨ga',ea,hg',d0'⟩,-⟩:=hcell' j hlt'
   injection ea with ea;injection ea with ea;subst ea
   rw [←HV.out,Kc.out] at d0'
   clear c0 c1 hp hg hgw d0 hcell' hHeld hHeld6 y0 y1 y2 y3 y4 y5 y6
   go_wp2
   go_loopw [6] (fun i wr=>∃c:Nat,c≤n∧i=.int .i64 c∧∃b',MSt w wr M b b' j c 0 (keyBlocks (M.ls[j].L.take c))) (fun i _=>n-(intOf i).toNat)
   case atStart=>exact ⟨0,Nat.zero_le _,rfl,b',Kn.out⟩
   case round=>
    clear c0' c1' hp' hg' d0'
    obtain ⟨c,hc,rfl,b2,hst⟩:=hrel
    have Zn:=hid hst
    obtain ⟨c0,c1,hp,hcell⟩:=Kd.out _ _ _ hst.upd
    obtain ⟨⟨ga',ea,hg,d0⟩,-⟩:=hcell j hlt'
    injection ea with ea;injection ea with ea;subst ea
    rw [←HV.out,Kc.out] at d0
    by_cases hltc:c<n
    ·have hc':c<M.ls[j].L.length:=by rw [←Kp.out];exact hltc
     have hmem:=List.getElem_mem hc'
     obtain ⟨hka,hkb⟩:=key_apart hc' (Ka.out.nd j hlt')
     obtain ⟨hda0,hdb0⟩:=(Ka.out.vs j hlt').data _ hmem
     have Ky:=hid hdb0;have Zo:=hid hkb
     obtain ⟨hda,hdo⟩:=hst.data Ka.out Ke.out hlt' hda0 (fun q e=>⟨mem_kb hmem (.inl e),hka q e⟩)
     have hrow:=hst.cur hlt'
     rw [metas_drop _ _ hc'] at hrow
     have hA:(rep c (MM j)).length=c*8:=by rw [rep_length,MM_length]
     obtain ⟨gv,cv,ev,hgv,d2⟩:=hrow.cell (metas_key hA).1
     rw [←HV.out,Kc.out] at ev
     injection ev with ev ev2 ev3
     subst ev ev3
     clear ev2
     obtain ⟨hdl,hdl2⟩:=(Ka.out.inn j hlt').2.2 _ hmem
     have Kz:=hid hdl2
     have hblen:=hst.blen
     have Za:=hid (show b.ls.length+2000*j+2*c+2≤1000000 from by have h1:=Zj.out;have h2:=HN.out;have h3:2000*(j+1)≤2000*N:=Nat.mul_le_mul_left _ (by omega);omega)
     have hkeep:=keepB_any (k:=b2) hst.book hda (fun q e=>(hdo q e).1) hdl (by have:=Za.out;omega)
     obtain ⟨fa,fc,hfs,-,-,-⟩:=(SRow.of_data hda).slice
     have Kj:=hid (show ∀w6 b3,KStepB wr w6 b2 b3 M.ls[j].L[c].f M.ls[j].L[c].m.first.length (M.ls[j].L[c].m.first.map byteV)→MSt w w6 M b b3 j c 1 (keyBlocks (M.ls[j].L.take c)++M.ls[j].L[c].f.ownBlock.toList) from fun w6 b3 hk=>Zn.out.kept Ka.out Kw.out Ke.out hlt' (fun q e=>mem_kb hmem (.inl e)) hk)
     have Kk:=hid hfs
     rw [hfs] at d2 hkeep
     rw [hst.bp] at hkeep
     have Kf:=hid hkeep
     have Kb:=hid (show ∀w6 b3,KStepB wr w6 b2 b3 (.slice fa M.ls[j].L[c].m.first.length fc) M.ls[j].L[c].m.first.length (M.ls[j].L[c].m.first.map byteV)→MSt w w6 M b b3 j c 1 (keyBlocks (M.ls[j].L.take c)++M.ls[j].L[c].f.ownBlock.toList) from fun w6 b3 hk=>Kj.out w6 b3 (by rw [Kk.out];exact hk))
     generalize M.ls[j].L[c].m.first.length=dn at d2 Kf Kb
     generalize List.map byteV M.ls[j].L[c].m.first=dx at Kf Kb
     clear hst hcell hda hdo hrow hdl hfs hkeep hblen hdl2 hka hkb hda0 hdb0 Kj
     go_upto_region 10 with fail
     refine Kf.out.mono ?_
     rintro e w6 ⟨rfl,b3,hk⟩
     have hst:=Kb.out _ _ hk
     have Kq:=hid hst
     obtain ⟨c0',c1',hp',hcell'⟩:=Kd.out _ _ _ hst.upd
     obtain ⟨⟨ga',ea,hg',d0'⟩,-⟩:=hcell' j hlt'
     injection ea with ea;injection ea with ea;subst ea
     rw [←HV.out,Kc.out] at d0'
     clear c0 c1 hp hg d0 hgv d2 hk Kf Kb Kk
     obtain ⟨hda,hdo⟩:=hst.data Ka.out Ke.out hlt' Ky.out (fun q e=>⟨mem_kb hmem (.inr e),Zo.out q e⟩)
     have hrow:=hst.cur hlt'
     rw [metas_drop _ _ hc'] at hrow
     obtain ⟨gv',cv',ev,hgv,d2⟩:=hrow.cell (metas_key hA).2
     rw [←HV.out,Kc.out] at ev
     injection ev with ev ev2 ev3
     injection ev with ev
     injection ev with ev
     subst ev ev3
     clear ev2
     have hblen:=hst.blen
     have hkeep:=keepB_any (k:=b3) hst.book hda (fun q e=>(hdo q e).1) Kz.out (by have:=Za.out;omega)
     obtain ⟨fa2,fc2,hfs,-,-,-⟩:=(SRow.of_data hda).slice
     have Kj:=hid (show ∀w7 b4,KStepB w6 w7 b3 b4 M.ls[j].L[c].l M.ls[j].L[c].m.last.length (M.ls[j].L[c].m.last.map byteV)→MSt w w7 M b b4 j c 2 ((keyBlocks (M.ls[j].L.take c)++M.ls[j].L[c].f.ownBlock.toList)++M.ls[j].L[c].l.ownBlock.toList) from fun w7 b4 hk=>Kq.out.kept Ka.out Kw.out Ke.out hlt' (fun q e=>mem_kb hmem (.inr e)) hk)
     rw [hfs] at d2 hkeep
     rw [hst.bp] at hkeep
     have Kf:=hid hkeep
     have Kk:=hid hfs
     have Kb:=hid (show ∀w7 b4,KStepB w6 w7 b3 b4 (.slice fa2 M.ls[j].L[c].m.last.length fc2) M.ls[j].L[c].m.last.length (M.ls[j].L[c].m.last.map byteV)→MSt w w7 M b b4 j c 2 (keyBlocks (M.ls[j].L.take (c+1))) from fun w7 b4 hk=>by rw [kb_take _ _ hc'];exact Kj.out w7 b4 (by rw [Kk.out];exact hk))
     generalize M.ls[j].L[c].m.last.length=dn2 at d2 Kf Kb
     generalize List.map byteV M.ls[j].L[c].m.last=dx2 at Kf Kb
     clear hst hcell' hda hdo hrow hfs hkeep hblen Kj
     go_upto_region 11 with fail
     refine Kf.out.mono ?_
     rintro e w7 ⟨rfl,b4,hk⟩
     have hst:=Kb.out _ _ hk
     have Zz:=hid hst
     obtain ⟨c0,c1,hp,hcell⟩:=Kd.out _ _ _ hst.upd
     obtain ⟨⟨ga',ea,hg,d0⟩,-⟩:=hcell j hlt'
     injection ea with ea;injection ea with ea;subst ea
     rw [←HV.out,Kc.out] at d0
     clear c0' c1' hp' hg' d0' hgv d2 hk Kf Kb Kk
     obtain ⟨g9,c9,e9,hgv,hcf,hset⟩:=meta_setM (hst.cur hlt') hc' (-100-(j:Int))
     have hxl:(M.ls[j].L.flatMap MV.cells).length=M.ls[j].L.length*8:=metas_length _
     rw [MM_eq,rep_set8M hxl hc'] at hset
     rw [←HV.out,Kc.out] at e9
     injection e9 with e9 e92 e93
     injection e9 with e9;injection e9 with e9
     subst e9 e93
     clear e92
     have Kg:=hid (show M.ls[j].v.ownBlock=some gv from by rw [←HV.out,Kc.out];rfl)
     have Zp:=hid (hst.next Ka.out Ke.out hlt' ((((((((((Upd.refl _ _).setCell (p:=⟨gv,c*8,none⟩) (fun _=>Kg.out) (.int .i64 (-100-(j:Int)))).setCell (p:=⟨gv,c*8+1,none⟩) (fun _=>Kg.out) (.int .i64 0)).setCell (p:=⟨gv,c*8+2,none⟩) (fun _=>Kg.out) (.int .i64 0)).setCell (p:=⟨gv,c*8+3,none⟩) (fun _=>Kg.out) (.int .i64 0)).setCell (p:=⟨gv,c*8+4,none⟩) (fun _=>Kg.out) (.int .i64 0)).setCell (p:=⟨gv,c*8+5,none⟩) (fun _=>Kg.out) (.int .i64 0)).setCell (p:=⟨gv,c*8+6,none⟩) (fun _=>Kg.out) (.slice none 0 0)).setCell (p:=⟨gv,c*8+7,none⟩) (fun _=>Kg.out) (.slice none 0 0))) hset)
     obtain ⟨⟨o0,z0⟩,f0⟩:=hcf 0 (by omega)
     obtain ⟨⟨o1,z1⟩,f1⟩:=hcf 1 (by omega)
     obtain ⟨⟨o2,z2⟩,f2⟩:=hcf 2 (by omega)
     obtain ⟨⟨o3,z3⟩,f3⟩:=hcf 3 (by omega)
     obtain ⟨⟨o4,z4⟩,f4⟩:=hcf 4 (by omega)
     obtain ⟨⟨o5,z5⟩,f5⟩:=hcf 5 (by omega)
     obtain ⟨⟨o6,z6⟩,f6⟩:=hcf 6 (by omega)
     obtain ⟨⟨o7,z7⟩,f7⟩:=hcf 7 (by omega)
     simp only [Nat.add_zero] at z0 f0
     clear hst hcell hcf hset hxl hA
     go_wp2
     go_roundw
     case rel=>exact ⟨c+1,by omega,by go_num,b4,Zp.out⟩
     case measure=>simp [intOf];omega
    ·obtain rfl:c=n:=by omega
     have Kq:=hid (hst.nextL Ka.out Ke.out hlt' (by rw [←Kp.out]))
     clear hst hcell
     go_wp2
     go_roundw
     case rel=>exact ⟨j+1,by omega,by go_num,b2,Kq.out⟩
     case measure=>simp [intOf];omega
  ·obtain rfl:j=N:=by omega
   have hstF:MSt w wr M b b' M.ls.length 0 0 []:=by rw [←HN.out];exact hst
   obtain ⟨hkm,hmk⟩:=hstF.full Ka.out Ke.out
   have Zb:=hid (show ∀w',Upd M.marks.vown wr w'→MEnd w w' M b b' from fun w' hu=>hstF.fin Ka.out Ke.out hu)
   obtain ⟨K,hK⟩:∃K,K=M.marks:=⟨_,rfl⟩
   have hKN:K.ls.length=j:=by rw [hK,KM.marks_len,HN.out]
   have hKp:M.p=K.p:=by rw [hK];rfl
   rw [←hK] at hkm hmk Zb
   obtain ⟨ga,la2,lc2,hlv,hl3,hl4,hla,hat⟩:=hkm.rowAt
   have HK:=hid hkm;have Kr:=hid hla;have Zc:=hid hKN
   have Zq:=hid hkm.short
   have Ks:=hid (show ∀(S:Nat→Prop) wr',Upd S wr wr'→(∀q,q<wr.heap.size→S q→K.vown q)→wr'.cell? ⟨K.p,0,none⟩=some (.slice la2 j lc2)∧K.p<wr'.heap.size∧∀i (hi:i<K.ls.length),ga<wr'.heap.size∧wr'.cell? ⟨ga,i,none⟩=some K.ls[i].v from fun S wr' hu hS=>by rw [←hKN];exact hat S wr' hu hS)
   have Zr:=hid (show GrownW 23 48 8 wr wr K MM 0 (.slice none 0 0) [] from hmk.grown)
   rw [hKN] at hl3 Kr
   obtain ⟨c0',hp',-⟩:=Ks.out _ _ (Upd.refl (fun _=>False) wr) (fun _ _ e=>e.elim)
   rw [hKp]
   clear hst hcell hstF hkm hmk hlv hla hat c0 c1 hp Kd hKN hKp hK
   obtain ⟨wa0,rfl⟩:∃wa0,wa0=wr:=⟨_,rfl⟩
   go_wp2
   go_loopw [7,8] (fun mv i wr=>∃j2:Nat,j2≤j∧i=.int .i64 j2∧∃ma mc gs,mv=.slice ma j2 mc∧GrownW 23 48 8 wa0 wr K MM j2 mv gs) (fun _ i _=>j-(intOf i).toNat)
   case atStart=>exact ⟨0,Nat.zero_le _,rfl,none,0,[],rfl,Zr.out⟩
   case round=>
    clear c0' hp'
    obtain ⟨j2,hj2,rfl,ma,mc,gs,rfl,hgr⟩:=hrel
    have HG:=hid hgr
    obtain ⟨c0,hp,hcell⟩:=Ks.out _ _ hgr.upd (fun _ _ e=>e)
    by_cases hlt:j2<j
    ·have hlt':j2<K.ls.length:=by have:=Zc.out;omega
     obtain rfl:=Kr.out (by omega)
     obtain ⟨hg,d0⟩:=hcell j2 hlt'
     have hrow:=hgr.rest j2 hlt' (Nat.le_refl _)
     have hsh:=Zq.out j2 hlt'
     obtain ⟨v,hv⟩:∃v,v=K.ls[j2].v:=⟨_,rfl⟩
     obtain ⟨n,hn⟩:∃n,n=K.ls[j2].n:=⟨_,rfl⟩
     have HV:=hid hv;have Kp:=hid hn
     rw [←hv] at d0
     rw [←hn] at hsh
     rw [←hv,←hn] at hrow
     obtain ⟨va,vc,hvs,hv1,hv2,hz⟩:=SRow.slice hrow
     have Kc:=hid hvs;have Ko:=hid hrow;have HZ:=hid hz
     rw [hvs] at d0
     clear hgr hcell hrow hv hn hvs hz
     go_wp2
     obtain ⟨wo,rfl⟩:∃wo,wo=wr:=⟨_,rfl⟩
     go_loopw [9] (fun gvv wr=>∃L:Nat,n≤L∧L≤2*n+20∧∃gao gcap,gvv=.slice gao L gcap∧SRow wr 48 8 (.slice gao L gcap) L (rep L (MM j2))∧FullG wr (.slice va n vc) (MM j2)∧Upd (fun q=>v.ownBlock=some q) wo wr∧∀q,(Value.slice gao L gcap).ownBlock=some q→v.ownBlock=some q∨wo.heap.size≤q) (fun gvv _=>2*n+20-lenOf gvv)
     case atStart=>exact ⟨n,Nat.le_refl _,by omega,va,vc,rfl,by rw [←Kc.out];exact Ko.out,by rw [←Kc.out];exact FullG.of_owns Ko.out (by simp [MM]),Upd.refl _ _,fun q e=>.inl (by rw [Kc.out];exact e)⟩
     case round=>
      obtain ⟨L,hL1,hL2,gao,gcap,rfl,hd,hf,hup,hown⟩:=hrel
      have Kt:=hid hd;have Zd:=hid hf;have Ki:=hid hup;have Kh:=hid hown
      clear hd hf hup hown
      by_cases hlt2:L<2*n+20
      ·obtain ⟨gv3,w3,hrun3,hd3,hf3,hu3,ha3⟩:=rowMetas.grow (M:=MM j2) rfl (fun u hu=>by simp [MM] at hu;rcases hu with rfl|rfl|rfl|rfl|rfl|rfl|rfl|rfl<;>rfl) Kt.out Zd.out HZ.out hL1 (by omega) 23
       obtain ⟨gao3,gcap3,hgs3,-,-,-⟩:=SRow.slice hd3
       have hup3:Upd (fun q=>v.ownBlock=some q) wo w3:=Ki.out.trans hu3 (fun q hq e=>(Kh.out q e).resolve_right (by omega))
       have hown3:∀q,gv3.ownBlock=some q→v.ownBlock=some q∨wo.heap.size≤q:=fun q e=>(ha3 q e).elim (Kh.out q) (fun h=>.inr (Nat.le_trans Ki.out.size h))
       rw [hgs3] at hrun3 hd3 hown3
       have hrun3':(Builtin.append_ #[23,23] 23 #[.slice gao L gcap,.slice (some ⟨wr.heap.size,0,none⟩) 1 1]).run Tryz.prog (wr.alloc (.cells #[.int .i64 (-100-(j2:Int)),.int .i64 0,.int .i64 0,.int .i64 0,.int .i64 0,.int .i64 0,.slice none 0 0,.slice none 0 0] 48))=.ok (.slice gao3 (L+1) gcap3) w3:=hrun3
       have Zs:=hid hrun3';have Zt:=hid hd3;have Zu:=hid hf3;have Ze:=hid hup3;have Ku:=hid hown3
       clear hrun3 hrun3' hd3 hf3 hup3 hown3 hu3 ha3 hgs3
       have hlt3:(L:Int)<2*(n:Int)+20:=by omega
       go_wp2_with (at_builtin;refine wpList_append_run rfl _ _ _ rfl rfl rfl Zs.out ?_)
       go_roundw
       case rel=>exact ⟨L+1,by omega,by omega,gao3,gcap3,rfl,Zt.out,Zu.out,Ze.out,Ku.out⟩
       case measure=>simp [lenOf];omega
      ·obtain rfl:L=2*n+20:=by omega
       have hnl:¬((2*n+20:Nat):Int)<2*(n:Int)+20:=by omega
       have hrm:SRow wr 23 1 (.slice ma j2 mc) j2 gs:=SRow.upd HG.out.row Ki.out (fun q e1 e2=>by
        have h1:=HG.out.new q e1
        have h2:=HK.out.ltV hlt' (by rw [←HV.out];exact e2)
        omega)
       obtain ⟨mv',w4,hrun4,r4,u4,o4,-⟩:=rowMetass.push (M:=[.slice gao (2*n+20) gcap]) hrm rfl (fun x hx=>by simp at hx;subst hx;rfl) (by omega) 45
       obtain ⟨ma4,mc4,hms4,-,-,-⟩:=SRow.slice r4
       rw [hms4] at hrun4 r4 o4
       have hrun4':(Builtin.append_ #[45,45] 45 #[.slice ma j2 mc,.slice (some ⟨wr.heap.size,0,none⟩) 1 1]).run Tryz.prog (wr.alloc (.cells #[.slice gao (2*n+20) gcap] 23))=.ok (.slice ma4 (j2+1) mc4) w4:=hrun4
       have hstep:=HG.out.step HK.out hlt' (Ki.out.mono (fun q _ e=>by rw [←HV.out];exact e)) (by rw [←HV.out,Kc.out];exact Zd.out) (FullG.of_owns Kt.out (by simp [MM])) (fun q e=>⟨by rw [←HV.out];exact Kh.out q e,(Kt.out.lt q e)⟩) r4 u4 o4
       have Zf:=hid hrun4';have Zg:=hid hstep
       obtain ⟨L2,hL2e⟩:∃L2,L2=2*n+20:=⟨_,rfl⟩
       rw [←hL2e] at Zf hnl⊢
       clear hrun4 hrun4' hstep hrm r4 u4 o4 hms4 hL2e
       go_wp2_with (at_builtin;refine wpList_append_run rfl _ _ _ rfl rfl rfl Zf.out ?_)
       go_roundw
       case rel=>exact ⟨j2+1,by omega,by go_num,ma4,mc4,_,rfl,Zg.out⟩
       case measure=>simp [intOf];omega
    ·obtain rfl:j2=j:=by omega
     have Kl:=HG
     clear hgr hcell
     go_wp2
     obtain ⟨wo,rfl⟩:∃wo,wo=wr:=⟨_,rfl⟩
     go_loopw [11] (fun i wr=>∃j3:Nat,j3≤j2∧i=.int .i64 j3∧Drawn wo wr) (fun i _=>j2-(intOf i).toNat)
     case atStart=>exact ⟨0,Nat.zero_le _,rfl,⟨Upd.refl _ _,rfl⟩⟩
     case round=>
      clear c0 hp
      obtain ⟨j3,hj3,rfl,hdr⟩:=hrel
      have Km:=hid hdr
      have hU:Upd K.vown wa0 wr:=Kl.out.upd.trans hdr.1 (fun _ _ e=>e.elim)
      obtain ⟨c0,hp,hcell⟩:=Ks.out _ _ hU (fun _ _ e=>e)
      by_cases hlt:j3<j2
      ·have hlt':j3<K.ls.length:=by have:=Zc.out;omega
       have hltg:j3<gs.length:=by rw [Kl.out.len];exact hlt
       obtain rfl:=Kr.out (by omega)
       obtain ⟨hg,d0⟩:=hcell j3 hlt'
       have hf1:=(Kl.out.full j3 hlt' hlt).upd Km.out.1 (fun _ _ e=>e)
       have hf2:=(Kl.out.gfull j3 hltg).upd Km.out.1 (fun _ _ e=>e)
       obtain ⟨gm,cm,em,hgm,d1⟩:=SRow.cell (SRow.upd Kl.out.row Km.out.1 (fun _ _ e=>e)) (k:=j3) (u:=gs[j3]) (by simp [hltg])
       injection em with em1 _ em3
       subst em1 em3
       obtain ⟨v,hv⟩:∃v,v=K.ls[j3].v:=⟨_,rfl⟩
       obtain ⟨g2,hg2⟩:∃g,g=gs[j3]:=⟨_,rfl⟩
       rw [←hv] at d0 hf1
       rw [←hg2] at d1 hf2
       obtain ⟨va,vn,vc,rfl,v1,v2,v3⟩:=id hf1
       obtain ⟨ga2,gn2,gc2,rfl,x1,x2,x3⟩:=id hf2
       have Zv:=hid (aloneM_any (m:=-100-(j3:Int)) (show FullG wr (.slice va vn vc) [.int .i64 (-100-(j3:Int)),.int .i64 0,.int .i64 0,.int .i64 0,.int .i64 0,.int .i64 0,.slice none 0 0,.slice none 0 0] from hf1))
       have Zw:=hid (show ∀V,Drawn wr V→_ from fun V hV=>aloneM_any (m:=-100-(j3:Int)) (show FullG V (.slice ga2 gn2 gc2) [.int .i64 (-100-(j3:Int)),.int .i64 0,.int .i64 0,.int .i64 0,.int .i64 0,.int .i64 0,.slice none 0 0,.slice none 0 0] from hf2.upd hV.1 (fun _ _ e=>e)))
       clear hdr hcell hf1 hf2 v3 x3 hU hv hg2
       go_wp2_with fail
       refine Zv.out.mono ?_
       rintro e wa ⟨rfl,hda⟩
       have Kv:=hid hda
       have d1':=(hda.cell _).trans d1
       have hgm':gm<wa.heap.size:=by rw [hda.2];exact hgm
       clear hda
       go_wp2_with fail
       refine (Zw.out _ Kv.out).mono ?_
       rintro e wb ⟨rfl,hdb⟩
       have Zh:=hid (show Drawn wr wb from ⟨Kv.out.1.trans hdb.1 (fun _ _ e=>e),hdb.2.trans Kv.out.2⟩)
       clear hdb
       go_wp2
       go_roundw
       case rel=>exact ⟨j3+1,by omega,by go_num,Km.out.1.trans Zh.out.1 (fun _ _ e=>e),Zh.out.2.trans Km.out.2⟩
       case measure=>simp [intOf];omega
      ·obtain rfl:j3=j2:=by omega
       have Zx:=hid (Zb.out _ hU)
       clear hdr hcell
       go_wp2
       go_ret
       exact ⟨rfl,_,Zx.out⟩
end Go.Proofs.YtgaidmohdhaonaaGreatDoor
