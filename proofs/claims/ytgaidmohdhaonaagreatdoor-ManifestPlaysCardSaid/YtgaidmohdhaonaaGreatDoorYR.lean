/-
  Package strataref10, walked: the reader's number and bytes.
  Package strataref10: what Decode's reader does, step by step.
-/
import Derived.Test.YtgaidmohdhaonaaGreatDoorYL
import Derived.Test.YtgaidmohdhaonaaGreatDoorYG
import Derived.Deep.RegionHeld3
set_option linter.unusedVariables false
set_option linter.unusedSimpArgs false
set_option linter.unnecessarySimpa false
set_option linter.unusedSectionVars false
set_option maxRecDepth 100000
set_option maxHeartbeats 3200000
namespace Go.Proofs.YtgaidmohdhaonaaGreatDoor
open Go Go.RowKit
def RrAt (W:World) (p:Nat) (bv:Value) (s:RdA):Prop:=W.heap[p]? = some (.cells #[bv,.int .i64 (s.at':Nat),.bool s.bad] 149 (0,0))
theorem RrAt.cells {W:World} {p:Nat} {bv:Value} {s:RdA} (h:RrAt W p bv s):(W.cell? ⟨p,0,none⟩=some bv∧W.cell? ⟨p,1,none⟩=some (.int .i64 (s.at':Nat))∧W.cell? ⟨p,2,none⟩=some (.bool s.bad))∧(W.frozen? ⟨p,1,none⟩=false∧W.frozen? ⟨p,2,none⟩=false)∧p<W.heap.size:=
 ⟨⟨cell_of_row _ _ 0 _ _ _ h,cell_of_row _ _ 1 _ _ _ h,cell_of_row _ _ 2 _ _ _ h⟩,⟨frozen_of_row _ _ _ _ _ h,frozen_of_row _ _ _ _ _ h⟩,lt_of_heap h⟩
theorem RrAt.keep {W W':World} {p:Nat} {bv:Value} {s:RdA} (h:RrAt W p bv s) (hu:Upd (fun _=>False) W W'):RrAt W' p bv s:=hu.get h (fun e=>e)
theorem RrAt.broken {W:World} {p:Nat} {bv:Value} {s:RdA} (h:RrAt W p bv s):RrAt (W.setCell ⟨p,2,none⟩ (.bool true)) p bv ⟨s.at',true⟩:=heap_setCell_at _ _ _ _ _ _ h
theorem RrAt.moved {W:World} {p:Nat} {bv:Value} {s:RdA} (h:RrAt W p bv s) (a:Nat):RrAt (W.setCell ⟨p,1,none⟩ (.int .i64 a)) p bv ⟨a,s.bad⟩:=heap_setCell_at _ _ _ _ _ _ h
theorem rdN'_at {b:List UInt8} {s:RdA} (h:s.at'≤b.length):(rdN' b s).2.at'≤b.length:=by
 unfold rdN'
 split
 ·exact h
 ·exact rdN_at h
theorem rdB'_at {b:List UInt8} {m:Nat} {s:RdA} (h:s.at'≤b.length):(rdB' b m s).2.at'≤b.length:=by
 unfold rdB'
 split
 ·exact h
 ·exact rdB_at h
theorem refNum_any {w:World} {p c:Nat} {g:Option Addr} {b:List UInt8} {s:RdA} (hp:RrAt w p (.slice g b.length c) s) (hb:BAt w (.slice g b.length c) b) (hs:s.at'≤b.length) (hl:b.length≤140737488351232) :
  Calls Tryz.prog 86 #[.pointer (some ⟨p,0,none⟩)] w fun e w'=>e=.returned (.int .i64 (rdN' b s).1)∧RrAt w' p (.slice g b.length c) (rdN' b s).2∧Upd (fun k=>k=p) w w':=by
 have Kd:=hid hp
 have Kf:=hid hb
 have Kc:=hid (fun k=>refReadUint_any (hb.keep ((Upd.refl (fun _=>False) w).drewN k)) hs (by omega))
 have HR:=hid (show rdN' b s=if s.bad=true then ((0:Int),s) else if (readU b s.at').2.2≠0∨9223372036854775807<(readU b s.at').1 then ((0:Int),RdA.mk s.at' true) else ((((readU b s.at').1:Nat):Int),RdA.mk (readU b s.at').2.1 s.bad) from rfl)
 obtain ⟨⟨c0,c1,c2⟩,⟨fz1,fz2⟩,hpl⟩:=hp.cells
 obtain ⟨at0,bad0⟩:=s
 simp only at c1 c2 hs Kc Kd hpl c0
 simp only at HR
 obtain ⟨R,hR⟩:∃R,R=readU b at0:=⟨_,rfl⟩
 rw [←hR] at Kc HR
 clear hR hp hb
 obtain ⟨n,a2,e2⟩:=R
 simp only at Kc HR
 obtain ⟨N,hN⟩:∃N,N=b.length:=⟨_,rfl⟩
 rw [←hN] at c0 Kc hs Kd hl⊢
 clear hN
 cases bad0
 rotate_left
 ·skip
  go_enter Tryz.func86,Tryz.ntmps86
  go_wp2
  go_ret
  exact ⟨rfl,Kd.out,Upd.refl _ _⟩
 have hrr:=HR.out
 rw [if_neg (by decide)] at hrr
 by_cases h1:e2=0
 ·subst h1
  by_cases h2:9223372036854775807<n
  ·rw [if_pos (.inr h2)] at hrr
   have Ke:=hid hrr
   clear hrr
   have h2':(9223372036854775807:Int)<(n:Int):=by omega
   go_enter Tryz.func86,Tryz.ntmps86
   go_wp2_with fail
   go_quiet ((go_at_call 143;exact Calls.quiet_of_same (Kc.out _)))
   revert nq
   intro q
   have Ka:=hid (show RrAt (w.drewN q) p (.slice g N c) ⟨at0,false⟩ from Kd.out)
   obtain ⟨⟨c0',c1',c2'⟩,⟨fz1',fz2'⟩,hpl'⟩:=Ka.out.cells
   have Kb:=hid (((Upd.refl (fun k=>k=p) w).drewN q))
   generalize w.drewN q=wq at Ka Kb c0' c1' c2' fz1' fz2' hpl'⊢
   go_wp2
   go_ret
   rw [Ke.out]
   exact ⟨rfl,Ka.out.broken,Kb.out.setCell (p:=⟨p,2,none⟩) (fun _=>rfl) _⟩
  ·rw [if_neg (by omega)] at hrr
   have Ke:=hid hrr
   clear hrr
   have h2':¬(9223372036854775807:Int)<(n:Int):=by omega
   have hnw:IntKind.i64.wrap (n:Int)=(n:Int):=by rw [IntKind.wrap_i64];omega
   go_enter Tryz.func86,Tryz.ntmps86
   go_wp2_with fail
   go_quiet ((go_at_call 143;exact Calls.quiet_of_same (Kc.out _)))
   revert nq
   intro q
   have Ka:=hid (show RrAt (w.drewN q) p (.slice g N c) ⟨at0,false⟩ from Kd.out)
   obtain ⟨⟨c0',c1',c2'⟩,⟨fz1',fz2'⟩,hpl'⟩:=Ka.out.cells
   have Kb:=hid (((Upd.refl (fun k=>k=p) w).drewN q))
   generalize w.drewN q=wq at Ka Kb c0' c1' c2' fz1' fz2' hpl'⊢
   go_wp2
   go_ret
   rw [Ke.out]
   exact ⟨rfl,Ka.out.moved a2,Kb.out.setCell (p:=⟨p,1,none⟩) (fun _=>rfl) _⟩
 ·rw [if_pos (.inl h1)] at hrr
  have Ke:=hid hrr
  clear hrr
  have h1':(e2 != 0)=true:=by simpa using h1
  clear h1
  go_enter Tryz.func86,Tryz.ntmps86
  go_wp2_with fail
  go_quiet ((go_at_call 143;exact Calls.quiet_of_same (Kc.out _)))
  revert nq
  intro q
  have Ka:=hid (show RrAt (w.drewN q) p (.slice g N c) ⟨at0,false⟩ from Kd.out)
  obtain ⟨⟨c0',c1',c2'⟩,⟨fz1',fz2'⟩,hpl'⟩:=Ka.out.cells
  have Kb:=hid (((Upd.refl (fun k=>k=p) w).drewN q))
  generalize w.drewN q=wq at Ka Kb c0' c1' c2' fz1' fz2' hpl'⊢
  go_wp2
  go_ret
  rw [Ke.out]
  exact ⟨rfl,Ka.out.broken,Kb.out.setCell (p:=⟨p,2,none⟩) (fun _=>rfl) _⟩
theorem refRbytes_any {w:World} {p c:Nat} {g:Option Addr} {b:List UInt8} {s:RdA} (hp:RrAt w p (.slice g b.length c) s) (hb:BAt w (.slice g b.length c) b) (hs:s.at'≤b.length) (hl:b.length≤140737488351232) :
  Calls Tryz.prog 87 #[.pointer (some ⟨p,0,none⟩)] w fun e w'=>∃v',e=.returned v'∧RrAt w' p (.slice g b.length c) (rdB' b b.length s).2∧Upd (fun k=>k=p) w w'∧DataIs w' v' (rdB' b b.length s).1∧∀k,v'.ownBlock=some k→w.heap.size≤k:=by
 have Kb:=hid hp
 have Kh:=hid hb
 have Ka:=hid (refReadBytes_any (hb.keep (Upd.refl (fun _=>False) w).drew) hs hl (most:=b.length) hl)
 have HR:=hid (show rdB' b b.length s=if s.bad=true then (([]:List UInt8),s) else if (readB b s.at' b.length).2.2≠0 then (([]:List UInt8),RdA.mk s.at' true) else ((readB b s.at' b.length).1,RdA.mk (readB b s.at' b.length).2.1 s.bad) from rfl)
 obtain ⟨⟨c0,c1,c2⟩,⟨fz1,fz2⟩,hpl⟩:=hp.cells
 obtain ⟨at0,bad0⟩:=s
 simp only at c1 c2 hs Ka Kb hpl c0
 simp only at HR
 obtain ⟨R,hR⟩:∃R,R=readB b at0 b.length:=⟨_,rfl⟩
 rw [←hR] at Ka HR
 clear hR hp hb
 obtain ⟨n,a2,e2⟩:=R
 simp only at Ka HR
 obtain ⟨N,hN⟩:∃N,N=b.length:=⟨_,rfl⟩
 rw [←hN] at c0 Ka HR hs Kb hl⊢
 clear hN
 cases bad0
 rotate_left
 ·skip
  go_enter Tryz.func87,Tryz.ntmps87
  go_wp2
  go_ret
  exact ⟨_,rfl,Kb.out,Upd.refl _ _,.inl ⟨rfl,rfl⟩,fun k e=>by cases e⟩
 have hrr:=HR.out
 rw [if_neg (by decide)] at hrr
 by_cases h1:e2=0
 ·subst h1
  rw [if_neg (by simp)] at hrr
  have Ke:=hid hrr
  clear hrr
  go_enter Tryz.func87,Tryz.ntmps87
  go_wp2_with fail
  have hcur:=hid ((Upd.refl (fun _=>False) w).drew)
  go_region_held3 (fun V=>V.cell? ⟨p,0,none⟩=some (.slice g N c)∧V.cell? ⟨p,1,none⟩=some (.int .i64 (at0:Int)))
   (first
    | (exact ⟨hcur.out.cell hpl c0,hcur.out.cell hpl c1⟩)
    | go_keep)
   (first
    | (go_at_call 144;refine Ka.out.mono ?_;rintro e W1 ⟨v1,rfl,hn⟩;have hcur:=hid ((Upd.refl (fun _=>False) w).drew.trans hn.upd (fun _ _ e=>e)))
    | fail)
  all_goals
   have Kc:=hid ((Upd.refl (fun _=>False) w).drew.trans hn.upd (fun _ _ e=>e))
   have Kd:=hid (Kb.out.keep Kc.out)
   obtain ⟨⟨c0',c1',c2'⟩,⟨fz1',fz2'⟩,hpl'⟩:=Kd.out.cells
   have Kf:=hid (Kc.out.mono (T:=fun k=>k=p) (fun _ _ e=>e.elim))
   have HN:=hid hn
   have Kg:=hid (show ∀k,v1.ownBlock=some k→k≠p from fun k e=>by have h1:w.heap.size≤k:=hn.new k e;omega)
   clear hn hcur
   go_wp2
   go_ret
   rw [Ke.out]
   exact ⟨_,rfl,Kd.out.moved a2,Kf.out.setCell (p:=⟨p,1,none⟩) (fun _=>rfl) _,HN.out.data.upd (Upd.cell_only W1 p 1 _) (fun k e=>Kg.out k e),HN.out.new⟩
 ·rw [if_pos h1] at hrr
  have Ke:=hid hrr
  clear hrr
  have h1':(e2 != 0)=true:=by simpa using h1
  clear h1
  go_enter Tryz.func87,Tryz.ntmps87
  go_wp2_with fail
  have hcur:=hid ((Upd.refl (fun _=>False) w).drew)
  go_region_held3 (fun V=>V.cell? ⟨p,0,none⟩=some (.slice g N c)∧V.cell? ⟨p,1,none⟩=some (.int .i64 (at0:Int)))
   (first
    | (exact ⟨hcur.out.cell hpl c0,hcur.out.cell hpl c1⟩)
    | go_keep)
   (first
    | (go_at_call 144;refine Ka.out.mono ?_;rintro e W1 ⟨v1,rfl,hn⟩;have hcur:=hid ((Upd.refl (fun _=>False) w).drew.trans hn.upd (fun _ _ e=>e)))
    | fail)
  all_goals
   have Kc:=hid ((Upd.refl (fun _=>False) w).drew.trans hn.upd (fun _ _ e=>e))
   have Kd:=hid (Kb.out.keep Kc.out)
   obtain ⟨⟨c0',c1',c2'⟩,⟨fz1',fz2'⟩,hpl'⟩:=Kd.out.cells
   have Kf:=hid (Kc.out.mono (T:=fun k=>k=p) (fun _ _ e=>e.elim))
   have HN:=hid hn
   have Kg:=hid (show ∀k,v1.ownBlock=some k→k≠p from fun k e=>by have h1:w.heap.size≤k:=hn.new k e;omega)
   clear hn hcur
   go_wp2
   go_ret
   rw [Ke.out]
   exact ⟨_,rfl,Kd.out.broken,Kf.out.setCell (p:=⟨p,2,none⟩) (fun _=>rfl) _,.inl ⟨rfl,rfl⟩,fun k e=>by cases e⟩
def DataN (base:Nat) (W:World) (v:Value) (bs:List UInt8):Prop:=DataIs W v bs∧∀k,v.ownBlock=some k→base≤k
theorem DataN.keepT {S:Nat→Prop} {n:Nat} {w w':World} {v:Value} {bs:List UInt8} (h:DataN n w v bs) (hu:Upd S w w') (hS:∀k,S k→∀cur fr,w.heap[k]?≠some (.cells cur 5 fr)):DataN n w' v bs:=⟨DataIs.keepT h.1 hu hS,h.2⟩
theorem DataN.upd {S:Nat→Prop} {n:Nat} {w w':World} {v:Value} {bs:List UInt8} (h:DataN n w v bs) (hu:Upd S w w') (hn:∀k,v.ownBlock=some k→¬S k):DataN n w' v bs:=⟨DataIs.upd h.1 hu hn,h.2⟩
theorem DataN.bat {n:Nat} {w:World} {v:Value} {bs:List UInt8} (h:DataN n w v bs):BAt w v bs:=DataIs.bat h.1
theorem DataN.nil (n:Nat) (W:World):DataN n W (.slice none 0 0) []:=⟨.inl ⟨rfl,rfl⟩,fun k e=>by cases e⟩
structure RfS (w W:World) (p2 p7:Nat) (g:Option Addr) (c:Nat) (B:List UInt8) (s:RdA):Prop where
 upd:Upd (fun _=>False) w W
 b2:W.heap[p2]? = some (.cells (verC 0 0 0 0 0 (.slice none 0 0) (.slice none 0 0)) 25 (0,0))
 rd:RrAt W p7 (.slice g B.length c) s
 bb:DataIs W (.slice g B.length c) B
 lt:s.at'≤B.length
 n2:w.heap.size≤p2
 n7:w.heap.size≤p7
 hl:B.length≤1048576
theorem RfS.ty {w W:World} {p2 p7:Nat} {g:Option Addr} {c:Nat} {B:List UInt8} {s:RdA} (h:RfS w W p2 p7 g c B s):∀k,k=p7→∀cur fr,W.heap[k]?≠some (.cells cur 5 fr)∧W.heap[k]?≠some (.cells cur 48 fr):=by
 rintro k rfl cur fr
 exact ⟨not_ty h.rd (by decide) cur fr,not_ty h.rd (by decide) cur fr⟩
theorem RfS.ne {w W:World} {p2 p7:Nat} {g:Option Addr} {c:Nat} {B:List UInt8} {s:RdA} (h:RfS w W p2 p7 g c B s):p2≠p7:=by
 rintro rfl
 exact not_ty h.b2 (by decide) _ _ h.rd
theorem RfS.turn {w W W1:World} {p2 p7:Nat} {g:Option Addr} {c:Nat} {B:List UInt8} {s s':RdA} (h:RfS w W p2 p7 g c B s) (hu:Upd (fun k=>k=p7) W W1) (hr:RrAt W1 p7 (.slice g B.length c) s') (ha:s'.at'≤B.length):RfS w W1 p2 p7 g c B s':=
 ⟨h.upd.trans hu (fun k hk e=>by have:=h.n7;omega),hu.get h.b2 (fun e=>h.ne e),hr,h.bb.keepT hu (fun k e cur fr=>(h.ty k e cur fr).1),ha,h.n2,h.n7,h.hl⟩
theorem RfS.keep {w W W1:World} {p2 p7:Nat} {g:Option Addr} {c:Nat} {B:List UInt8} {s:RdA} (h:RfS w W p2 p7 g c B s) (hu:Upd (fun _=>False) W W1):RfS w W1 p2 p7 g c B s:=
 ⟨h.upd.trans hu (fun _ _ e=>e),hu.get h.b2 (fun e=>e),h.rd.keep hu,h.bb.upd hu (fun _ _ e=>e),h.lt,h.n2,h.n7,h.hl⟩
theorem RfS.num {w W:World} {p2 p7:Nat} {g:Option Addr} {c:Nat} {B:List UInt8} {s s':RdA} {n:Int} (h:RfS w W p2 p7 g c B s) (hr:rdN' B s=(n,s')) :
  Calls Tryz.prog 86 #[.pointer (some ⟨p7,0,none⟩)] W fun e W1=>e=.returned (.int .i64 n)∧RfS w W1 p2 p7 g c B s'∧Upd (fun k=>k=p7) W W1:=by
 refine (refNum_any h.rd h.bb.bat h.lt (by have:=h.hl;omega)).mono ?_
 rintro e W1 ⟨rfl,h1,h2⟩
 have ha:=rdN'_at h.lt
 rw [hr] at h1 ha⊢
 exact ⟨rfl,h.turn h2 h1 ha,h2⟩
theorem RfS.bytes {w W:World} {p2 p7:Nat} {g:Option Addr} {c:Nat} {B l:List UInt8} {s s':RdA} (h:RfS w W p2 p7 g c B s) (hr:rdB' B B.length s=(l,s')) :
  Calls Tryz.prog 87 #[.pointer (some ⟨p7,0,none⟩)] W fun e W1=>∃v,e=.returned v∧RfS w W1 p2 p7 g c B s'∧Upd (fun k=>k=p7) W W1∧DataN w.heap.size W1 v l:=by
 refine (refRbytes_any h.rd h.bb.bat h.lt (by have:=h.hl;omega)).mono ?_
 rintro e W1 ⟨v,rfl,h1,h2,h3,h4⟩
 have ha:=rdB'_at (m:=B.length) h.lt
 rw [hr] at h1 ha h3
 exact ⟨v,rfl,h.turn h2 h1 ha,h2,h3,fun k e=>Nat.le_trans h.upd.size (h4 k e)⟩
structure DfS (w W:World) (p2 p7 p8:Nat) (g:Option Addr) (c:Nat) (B:List UInt8) (a1 a2 a3 a4 a5:Int) (st rs:Value) (S:List UInt8) (L:List MV) (s:RdA):Prop where
 r:RfS w W p2 p7 g c B s
 b8:W.heap[p8]? = some (.cells (verC a1 a2 a3 a4 a5 st rs) 25 (0,0))
 ne:p8≠p2
 n8:w.heap.size≤p8
 st:DataN w.heap.size W st S
 runs:RunsOwn W w.heap.size rs L
 ks:∀x∈L,x.m.first.length≤1048576∧x.m.last.length≤1048576
 own:∀x∈L,(∀k,x.f.ownBlock=some k→w.heap.size≤k)∧∀k,x.l.ownBlock=some k→w.heap.size≤k
theorem DfS.ne7 {w W:World} {p2 p7 p8:Nat} {g:Option Addr} {c:Nat} {B S:List UInt8} {a1 a2 a3 a4 a5:Int} {st rs:Value} {L:List MV} {s:RdA} (h:DfS w W p2 p7 p8 g c B a1 a2 a3 a4 a5 st rs S L s):p8≠p7:=by
 rintro rfl
 exact not_ty h.b8 (by decide) _ _ h.r.rd
theorem DfS.turn {w W W1:World} {p2 p7 p8:Nat} {g:Option Addr} {c:Nat} {B S:List UInt8} {a1 a2 a3 a4 a5:Int} {st rs:Value} {L:List MV} {s s':RdA} (h:DfS w W p2 p7 p8 g c B a1 a2 a3 a4 a5 st rs S L s) (hu:Upd (fun k=>k=p7) W W1) (hr:RfS w W1 p2 p7 g c B s'):DfS w W1 p2 p7 p8 g c B a1 a2 a3 a4 a5 st rs S L s':=
 ⟨hr,hu.get h.b8 (fun e=>h.ne7 e),h.ne,h.n8,h.st.keepT hu (fun k e cur fr=>(h.r.ty k e cur fr).1),h.runs.keepT hu h.r.ty,h.ks,h.own⟩
theorem DfS.keep {w W W1:World} {p2 p7 p8:Nat} {g:Option Addr} {c:Nat} {B S:List UInt8} {a1 a2 a3 a4 a5:Int} {st rs:Value} {L:List MV} {s:RdA} (h:DfS w W p2 p7 p8 g c B a1 a2 a3 a4 a5 st rs S L s) (hu:Upd (fun _=>False) W W1):DfS w W1 p2 p7 p8 g c B a1 a2 a3 a4 a5 st rs S L s:=
 ⟨h.r.keep hu,hu.get h.b8 (fun e=>e),h.ne,h.n8,h.st.upd hu (fun _ _ e=>e),h.runs.keepT hu (fun _ e=>e.elim),h.ks,h.own⟩
theorem DfS.num {w W:World} {p2 p7 p8:Nat} {g:Option Addr} {c:Nat} {B S:List UInt8} {a1 a2 a3 a4 a5:Int} {st rs:Value} {L:List MV} {s s':RdA} {n:Int} (h:DfS w W p2 p7 p8 g c B a1 a2 a3 a4 a5 st rs S L s) (hr:rdN' B s=(n,s')) :
  Calls Tryz.prog 86 #[.pointer (some ⟨p7,0,none⟩)] W fun e W1=>e=.returned (.int .i64 n)∧DfS w W1 p2 p7 p8 g c B a1 a2 a3 a4 a5 st rs S L s'∧Upd (fun k=>k=p7) W W1:=
 (h.r.num hr).mono fun e W1 ⟨h1,h2,h3⟩=>⟨h1,h.turn h3 h2,h3⟩
theorem DfS.bytes {w W:World} {p2 p7 p8:Nat} {g:Option Addr} {c:Nat} {B S l:List UInt8} {a1 a2 a3 a4 a5:Int} {st rs:Value} {L:List MV} {s s':RdA} (h:DfS w W p2 p7 p8 g c B a1 a2 a3 a4 a5 st rs S L s) (hr:rdB' B B.length s=(l,s')) :
  Calls Tryz.prog 87 #[.pointer (some ⟨p7,0,none⟩)] W fun e W1=>∃v,e=.returned v∧DfS w W1 p2 p7 p8 g c B a1 a2 a3 a4 a5 st rs S L s'∧Upd (fun k=>k=p7) W W1∧DataN w.heap.size W1 v l:=
 (h.r.bytes hr).mono fun e W1 ⟨v,h1,h2,h3,h4⟩=>⟨v,h1,h.turn h3 h2,h3,h4⟩
theorem DfS.join {w W w2:World} {p2 p7 p8:Nat} {g:Option Addr} {c:Nat} {B S:List UInt8} {a1 a2 a3 a4 a5:Int} {st rs rs':Value} {L:List MV} {s:RdA} {x:MV} (h:DfS w W p2 p7 p8 g c B a1 a2 a3 a4 a5 st rs S L s)
  (hro:RunsOwn w2 w.heap.size rs' (L ++ [x])) (hu:Upd (fun k=>rs.ownBlock=some k) W w2) (hk:x.m.first.length≤1048576∧x.m.last.length≤1048576) (ho:(∀k,x.f.ownBlock=some k→w.heap.size≤k)∧∀k,x.l.ownBlock=some k→w.heap.size≤k) :
  w2.heap[p8]? = some (.cells (verC a1 a2 a3 a4 a5 st rs) 25 (0,0))∧DfS w (w2.setCell ⟨p8,6,none⟩ rs') p2 p7 p8 g c B a1 a2 a3 a4 a5 st rs' S (L ++ [x]) s:=by
 have hty:∀k,rs.ownBlock=some k→∃cur,W.heap[k]? = some (.cells cur 48 (0,0))∧w.heap.size≤k:=by
  intro k hk
  obtain ⟨-,hh2⟩:=h.runs.row
  rcases hh2 with ⟨rfl,-⟩|⟨g,cap,cur',rfl,hb,hg',-⟩
  ·cases hk
  ·simp only [Value.ownBlock,Option.some.injEq] at hk
   subst hk
   exact ⟨_,hg',hb⟩
 have h8:=hu.get h.b8 (fun e=>by obtain ⟨cur,hc,-⟩:=hty _ e;exact not_ty h.b8 (by decide) _ _ hc)
 have hc8:Upd (fun k=>k=p8) w2 (w2.setCell ⟨p8,6,none⟩ rs'):=Upd.cell_only w2 p8 6 rs'
 have hT8:∀k,k=p8→∀cur fr,w2.heap[k]?≠some (.cells cur 5 fr)∧w2.heap[k]?≠some (.cells cur 48 fr):=by
  rintro k rfl cur fr
  exact ⟨not_ty h8 (by decide) cur fr,not_ty h8 (by decide) cur fr⟩
 have hT:∀k,rs.ownBlock=some k→∀cur fr,W.heap[k]?≠some (.cells cur 5 fr):=by
  intro k hk cur fr
  obtain ⟨cur',hc,-⟩:=hty k hk
  exact not_ty hc (by decide) cur fr
 have hupd:Upd (fun _=>False) w (w2.setCell ⟨p8,6,none⟩ rs'):=(h.r.upd.trans hu (fun k hk e=>by obtain ⟨_,_,h9⟩:=hty k e;omega)).trans hc8 (fun k hk e=>by have:=h.n8;omega)
 refine ⟨h8,⟨⟨hupd,?_,?_,?_,h.r.lt,h.r.n2,h.r.n7,h.r.hl⟩,?_,h.ne,h.n8,?_,hro.keepT hc8 hT8,?_,?_⟩⟩
 ·exact hc8.get (hu.get h.r.b2 (fun e=>by obtain ⟨cur,hc,-⟩:=hty _ e;exact not_ty h.r.b2 (by decide) _ _ hc)) (fun e=>h.ne e.symm)
 ·exact hc8.get (hu.get h.r.rd (fun e=>by obtain ⟨cur,hc,-⟩:=hty _ e;exact not_ty h.r.rd (by decide) _ _ hc)) (fun e=>h.ne7 e.symm)
 ·exact (h.r.bb.keepT hu hT).keepT hc8 (fun k e cur fr=>(hT8 k e cur fr).1)
 ·rw [heap_setCell_at _ _ _ _ _ _ h8];simp [verC]
 ·exact (h.st.keepT hu hT).keepT hc8 (fun k e cur fr=>(hT8 k e cur fr).1)
 ·intro y hy
  rcases List.mem_append.1 hy with hy|hy
  ·exact h.ks y hy
  ·rw [List.mem_singleton] at hy;subst hy;exact hk
 ·intro y hy
  rcases List.mem_append.1 hy with hy|hy
  ·exact h.own y hy
  ·rw [List.mem_singleton] at hy;subst hy;exact ho
theorem DfS.put {w W:World} {p2 p7 p8:Nat} {g:Option Addr} {c:Nat} {B S S':List UInt8} {a1 a2 a3 a4 a5 b1 b2 b3 b4 b5:Int} {st rs st':Value} {L:List MV} {s:RdA} (h:DfS w W p2 p7 p8 g c B a1 a2 a3 a4 a5 st rs S L s) (j:Nat) (v:Value)
  (hv:(verC a1 a2 a3 a4 a5 st rs).setIfInBounds j v=verC b1 b2 b3 b4 b5 st' rs) (hst:DataN w.heap.size W st' S'):DfS w (W.setCell ⟨p8,j,none⟩ v) p2 p7 p8 g c B b1 b2 b3 b4 b5 st' rs S' L s:=by
 have hc8:Upd (fun k=>k=p8) W (W.setCell ⟨p8,j,none⟩ v):=Upd.cell_only W p8 j v
 have hT8:∀k,k=p8→∀cur fr,W.heap[k]?≠some (.cells cur 5 fr)∧W.heap[k]?≠some (.cells cur 48 fr):=by
  rintro k rfl cur fr
  exact ⟨not_ty h.b8 (by decide) cur fr,not_ty h.b8 (by decide) cur fr⟩
 refine ⟨⟨h.r.upd.trans hc8 (fun k hk e=>by have:=h.n8;omega),hc8.get h.r.b2 (fun e=>h.ne e.symm),hc8.get h.r.rd (fun e=>h.ne7 e.symm),h.r.bb.keepT hc8 (fun k e cur fr=>(hT8 k e cur fr).1),h.r.lt,h.r.n2,h.r.n7,h.r.hl⟩,?_,h.ne,h.n8,hst.keepT hc8 (fun k e cur fr=>(hT8 k e cur fr).1),h.runs.keepT hc8 hT8,h.ks,h.own⟩
 rw [heap_setCell_at _ _ _ _ _ _ h.b8,hv]
structure RnS (w W:World) (p2 p7 p8 pb:Nat) (g:Option Addr) (c:Nat) (B:List UInt8) (a1 a2 a3 a4 a5:Int) (st rs:Value) (S:List UInt8) (L:List MV) (s:RdA) (x:MV):Prop where
 d:DfS w W p2 p7 p8 g c B a1 a2 a3 a4 a5 st rs S L s
 bx:W.heap[pb]? = some (.cells x.cells.toArray 48 (0,0))
 nb:w.heap.size≤pb
 own:∀j,rs.ownBlock=some j→j≠pb
 xf:DataN w.heap.size W x.f x.m.first
 xl:DataN w.heap.size W x.l x.m.last
theorem RnS.turn {w W W1:World} {p2 p7 p8 pb:Nat} {g:Option Addr} {c:Nat} {B S:List UInt8} {a1 a2 a3 a4 a5:Int} {st rs:Value} {L:List MV} {s s':RdA} {x:MV} (h:RnS w W p2 p7 p8 pb g c B a1 a2 a3 a4 a5 st rs S L s x)
  (hu:Upd (fun k=>k=p7) W W1) (hd:DfS w W1 p2 p7 p8 g c B a1 a2 a3 a4 a5 st rs S L s'):RnS w W1 p2 p7 p8 pb g c B a1 a2 a3 a4 a5 st rs S L s' x:=
 ⟨hd,hu.get h.bx (fun e=>by subst e;exact not_ty h.bx (by decide) _ _ h.d.r.rd),h.nb,h.own,h.xf.keepT hu (fun k e cur fr=>(h.d.r.ty k e cur fr).1),h.xl.keepT hu (fun k e cur fr=>(h.d.r.ty k e cur fr).1)⟩
theorem RnS.num {w W:World} {p2 p7 p8 pb:Nat} {g:Option Addr} {c:Nat} {B S:List UInt8} {a1 a2 a3 a4 a5:Int} {st rs:Value} {L:List MV} {s s':RdA} {x:MV} {n:Int} (h:RnS w W p2 p7 p8 pb g c B a1 a2 a3 a4 a5 st rs S L s x) (hr:rdN' B s=(n,s')) :
  Calls Tryz.prog 86 #[.pointer (some ⟨p7,0,none⟩)] W fun e W1=>e=.returned (.int .i64 n)∧RnS w W1 p2 p7 p8 pb g c B a1 a2 a3 a4 a5 st rs S L s' x:=
 (h.d.num hr).mono fun e W1 ⟨h1,h2,h3⟩=>⟨h1,h.turn h3 h2⟩
theorem RnS.bytes {w W:World} {p2 p7 p8 pb:Nat} {g:Option Addr} {c:Nat} {B S l:List UInt8} {a1 a2 a3 a4 a5:Int} {st rs:Value} {L:List MV} {s s':RdA} {x:MV} (h:RnS w W p2 p7 p8 pb g c B a1 a2 a3 a4 a5 st rs S L s x) (hr:rdB' B B.length s=(l,s')) :
  Calls Tryz.prog 87 #[.pointer (some ⟨p7,0,none⟩)] W fun e W1=>∃v,e=.returned v∧RnS w W1 p2 p7 p8 pb g c B a1 a2 a3 a4 a5 st rs S L s' x∧DataN w.heap.size W1 v l:=
 (h.d.bytes hr).mono fun e W1 ⟨v,h1,h2,h3,h4⟩=>⟨v,h1,h.turn h3 h2,h4⟩
theorem RnS.set {w W:World} {p2 p7 p8 pb:Nat} {g:Option Addr} {c:Nat} {B S:List UInt8} {a1 a2 a3 a4 a5:Int} {st rs:Value} {L:List MV} {s:RdA} {x:MV} (h:RnS w W p2 p7 p8 pb g c B a1 a2 a3 a4 a5 st rs S L s x) (j:Nat) (v:Value) (y:MV)
  (hv:x.cells.toArray.setIfInBounds j v=y.cells.toArray) (hf:DataN w.heap.size W y.f y.m.first) (hl:DataN w.heap.size W y.l y.m.last):RnS w (W.setCell ⟨pb,j,none⟩ v) p2 p7 p8 pb g c B a1 a2 a3 a4 a5 st rs S L s y:=by
 have hcb:Upd (fun k=>k=pb) W (W.setCell ⟨pb,j,none⟩ v):=Upd.cell_only W pb j v
 have hT:∀k,k=pb→∀cur fr,W.heap[k]?≠some (.cells cur 5 fr):=by
  rintro k rfl cur fr
  exact not_ty h.bx (by decide) cur fr
 have hd:=h.d
 refine ⟨⟨⟨hd.r.upd.trans hcb (fun k hk e=>by have:=h.nb;omega),hcb.get hd.r.b2 (fun e=>by subst e;exact not_ty h.bx (by decide) _ _ hd.r.b2),hcb.get hd.r.rd (fun e=>by subst e;exact not_ty h.bx (by decide) _ _ hd.r.rd),hd.r.bb.keepT hcb hT,hd.r.lt,hd.r.n2,hd.r.n7,hd.r.hl⟩,hcb.get hd.b8 (fun e=>by subst e;exact not_ty h.bx (by decide) _ _ hd.b8),hd.ne,hd.n8,hd.st.keepT hcb hT,?_,hd.ks,hd.own⟩,?_,h.nb,h.own,hf.keepT hcb hT,hl.keepT hcb hT⟩
 ·exact ⟨owns_upd hd.runs.row hcb (fun k hk e=>h.own k hk e),fun y hy=>⟨(hd.runs.data y hy).1.keepT hcb hT,(hd.runs.data y hy).2.keepT hcb hT⟩⟩
 ·rw [heap_setCell_at _ _ _ _ _ _ h.bx,hv]
def MV.zero:MV:=⟨zeroMeta,.slice none 0 0,.slice none 0 0⟩
theorem DfS.box {w W:World} {p2 p7 p8:Nat} {g:Option Addr} {c:Nat} {B S:List UInt8} {a1 a2 a3 a4 a5:Int} {st rs:Value} {L:List MV} {s:RdA} (h:DfS w W p2 p7 p8 g c B a1 a2 a3 a4 a5 st rs S L s) :
  RnS w (W.alloc (.cells MV.zero.cells.toArray 48)) p2 p7 p8 W.heap.size g c B a1 a2 a3 a4 a5 st rs S L s MV.zero:=
 ⟨h.keep ((Upd.refl _ _).alloc _),heap_alloc_new _ _,h.r.upd.size,fun j hj e=>by have:=(h.runs.row.lt j hj).2;omega,DataN.nil _ _,DataN.nil _ _⟩
def DecKept (w':World) (base:Nat) (e:Ending):Option VerA→Prop
 | none=>e=.returned (.tuple #[.agg (verC 0 0 0 0 0 (.slice none 0 0) (.slice none 0 0)),.int .i64 100])
 | some x=>∃v,e=.returned (.tuple #[v,.int .i64 0])∧∀(S:Nat→Prop) W',(∀k,S k→k<base)→Upd S w' W'→VerAt W' v x
theorem DecKept.res {w':World} {base:Nat} {e:Ending} {o:Option VerA} (h:DecKept w' base e o):DecRes w' e o:=by
 cases o with
 | none=>exact h
 | some x=>
  obtain ⟨v,h1,h2⟩:=h
  exact ⟨v,h1,h2 (fun _=>False) w' (fun _ e=>e.elim) (Upd.refl _ _)⟩
theorem kept_of {W:World} {base:Nat} {S0:List UInt8} {a1 a2 a3 a4 a5:Int} {st rs:Value} {L:List MV} (h1:DataN base W st S0) (h2:RunsOwn W base rs L) (h3:∀x∈L,(∀k,x.f.ownBlock=some k→base≤k)∧∀k,x.l.ownBlock=some k→base≤k) :
  ∀(S:Nat→Prop) W',(∀k,S k→k<base)→Upd S W W'→VerAt W' (.agg #[.int .i64 a1,.int .i64 a2,.int .i64 a3,.int .i64 a4,.int .i64 a5,st,rs]) ⟨a1,a2,a3,a4,a5,S0,L.map MV.m⟩:=by
 intro S W' hS hu
 exact verOf (h1.1.upd hu (fun k e hs=>by have:=h1.2 k e;have:=hS k hs;omega)) ⟨owns_upd h2.row hu (fun k e hs=>by have:=(h2.row.lt k e).1;have:=hS k hs;omega),fun y hy=>⟨(h2.data y hy).1.upd hu (fun k e hs=>by have:=(h3 y hy).1 k e;have:=hS k hs;omega),(h2.data y hy).2.upd hu (fun k e hs=>by have:=(h3 y hy).2 k e;have:=hS k hs;omega)⟩⟩
end Go.Proofs.YtgaidmohdhaonaaGreatDoor
