/-
  stratalaw10.copied: a version in new memory.
-/
import Derived.Test.YtgaidmohdhaonaaGreatDoorYT
import Derived.Test.YtgaidmohdhaonaaGreatDoorZA
set_option linter.unusedVariables false
set_option linter.unusedSimpArgs false
set_option linter.unnecessarySimpa false
set_option linter.unusedSectionVars false
set_option maxRecDepth 100000
set_option maxHeartbeats 6400000
namespace Go.Proofs.YtgaidmohdhaonaaGreatDoor
open Go Go.RowKit
theorem RunsOwn.push2 {W W1:World} {base:Nat} {v:Value} {L:List MV} (h:RunsOwn W base v L) (x:MV) (hf:DataIs W x.f x.m.first) (hl:DataIs W x.l x.m.last) (hb:base≤W.heap.size) (hn:(L.length+1)*96≤140737488355328) (hW:W1=W.alloc (.cells x.cells.toArray 48)) :
  ∃ao cap w2,(Builtin.append_ #[23,23] 23 #[v,.slice (some ⟨W.heap.size,0,none⟩) 1 1]).run Tryz.prog W1=.ok (.slice ao (L.length+1) cap) w2∧RunsOwn w2 base (.slice ao (L.length+1) cap) (L ++ [x])∧Upd (fun k=>v.ownBlock=some k) W w2:=by
 obtain ⟨i0,hi,hz0,hz1,hz2⟩:=info_parts Tryz.infoMeta
 obtain ⟨a1,c1,e1,-⟩:=hf.bat
 obtain ⟨a2,c2,e2,-⟩:=hl.bat
 have hu:Upd (fun _=>False) W W1:=by rw [hW];exact (Upd.refl _ _).alloc _
 have hrow1:=owns_upd h.row hu (fun _ _ e=>e)
 have hblk:W1.heap[W.heap.size]? = some (.cells x.cells.toArray 48 (0,0)):=by rw [hW];exact heap_alloc_new _ _
 obtain ⟨v',w2,hr,hown,hg,-⟩:=run_append_own (P:=Tryz.prog) W1 base 23 23 48 i0 _ 8 96 Tryz.underlying23 hi hz0 hz1 hz2 rfl (by decide) v L.length _ hrow1 ⟨W.heap.size,0,none⟩ 1 1 x.cells rfl
  (World.news_of_block (cs:=x.cells.toArray) hblk) (by intro u hu;simp only [MV.cells,List.mem_cons,List.not_mem_nil,or_false] at hu;rcases hu with rfl|rfl|rfl|rfl|rfl|rfl|rfl|rfl<;>first|rfl|(rw [e1];rfl)|(rw [e2];rfl)) (by unfold maxLen;omega) (by omega) (Nat.le_trans hb hu.size)
 have hup:Upd (fun k=>v.ownBlock=some k) W w2:=(hu.mono (fun _ _ e=>e.elim)).grown hg (fun k hk _=>hk)
 have hT:∀k,v.ownBlock=some k→∀cur fr,W.heap[k]?≠some (.cells cur 5 fr):=by
  intro k hk cur fr hh
  obtain ⟨-,hh2⟩:=h.row
  rcases hh2 with ⟨rfl,-⟩|⟨g,cap,cur',rfl,-,hg',-⟩
  ·cases hk
  ·simp only [Value.ownBlock,Option.some.injEq] at hk
   subst hk
   rw [hg'] at hh
   injection hh with hh
   injection hh with _ hh
   exact absurd hh (by decide)
 have hro:RunsOwn w2 base v' (L ++ [x]):=by
  refine ⟨by simpa using hown,fun y hy=>?_⟩
  rcases List.mem_append.1 hy with hy|hy
  ·exact ⟨(h.data y hy).1.keepT hup hT,(h.data y hy).2.keepT hup hT⟩
  ·rw [List.mem_singleton] at hy
   subst hy
   exact ⟨hf.keepT hup hT,hl.keepT hup hT⟩
 obtain ⟨ao,cap,hv'⟩:=hro.slice
 rw [List.length_append,List.length_singleton] at hv'
 subst hv'
 exact ⟨ao,cap,w2,hr,hro,hup⟩
theorem metaCells {W:World} {p:Nat} {x0 x1 x2 x3 x4 x5 x6 x7:Value} (h:W.heap[p]? = some (.cells #[x0,x1,x2,x3,x4,x5,x6,x7] 48 (0,0))) :
  (W.cell? ⟨p,0,none⟩=some x0∧W.cell? ⟨p,1,none⟩=some x1∧W.cell? ⟨p,2,none⟩=some x2∧W.cell? ⟨p,3,none⟩=some x3∧W.cell? ⟨p,4,none⟩=some x4∧W.cell? ⟨p,5,none⟩=some x5∧W.cell? ⟨p,6,none⟩=some x6∧W.cell? ⟨p,7,none⟩=some x7)∧
  W.frozen? ⟨p,6,none⟩=false∧W.frozen? ⟨p,7,none⟩=false∧p<W.heap.size:=
 ⟨⟨cell_of_row _ _ 0 _ _ _ h,cell_of_row _ _ 1 _ _ _ h,cell_of_row _ _ 2 _ _ _ h,cell_of_row _ _ 3 _ _ _ h,cell_of_row _ _ 4 _ _ _ h,cell_of_row _ _ 5 _ _ _ h,cell_of_row _ _ 6 _ _ _ h,cell_of_row _ _ 7 _ _ _ h⟩,
  frozen_of_row _ _ _ _ _ h,frozen_of_row _ _ _ _ _ h,lt_of_heap h⟩
structure CpS (w W:World) (p1 p2:Nat) (x:VerA) (sv rsrc rs:Value) (L:List MV):Prop where
 upd:Upd (fun _=>False) w W
 r1:W.heap[p1]? = some (.cells (verC x.gen x.flushed x.next x.low x.clock sv rsrc) 25 (0,0))
 r2:W.heap[p2]? = some (.cells (verC 0 0 0 0 0 (.slice none 0 0) (.slice none 0 0)) 25 (0,0))
 n1:w.heap.size≤p1
 n2:w.heap.size≤p2
 ne:p1≠p2
 st:DataIs W sv x.state
 runs:RunsOwn W w.heap.size rs L
 own:(sv.ownBlock.toList++keyBlocks L).Nodup∧∀k∈sv.ownBlock.toList++keyBlocks L,w.heap.size≤k
theorem CpS.keep {w W W1:World} {p1 p2:Nat} {x:VerA} {sv rsrc rs:Value} {L:List MV} (h:CpS w W p1 p2 x sv rsrc rs L) (hu:Upd (fun _=>False) W W1):CpS w W1 p1 p2 x sv rsrc rs L:=
 ⟨h.upd.trans hu (fun _ _ e=>e),hu.get h.r1 (fun e=>e),hu.get h.r2 (fun e=>e),h.n1,h.n2,h.ne,h.st.upd hu (fun _ _ e=>e),h.runs.keepT hu (fun _ e=>e.elim),h.own⟩
theorem CpS.fresh {w W:World} {p1 p2:Nat} {x:VerA} {sv rsrc rs:Value} {L:List MV} (h:CpS w W p1 p2 x sv rsrc rs L) {k:Nat} (hk:W.heap.size≤k):w.heap.size≤k∧k∉sv.ownBlock.toList++keyBlocks L:=by
 refine ⟨Nat.le_trans h.upd.size hk,fun e=>?_⟩
 have hlt:k<W.heap.size:=by
  rcases List.mem_append.1 e with e|e
  ·exact h.st.lt k (by simpa using e)
  ·obtain ⟨y,hy,e⟩:=List.mem_flatMap.1 e
   rcases List.mem_append.1 e with e|e
   ·exact (h.runs.data y hy).1.lt k (by simpa using e)
   ·exact (h.runs.data y hy).2.lt k (by simpa using e)
 omega
theorem CpS.join {w W w2:World} {p1 p2:Nat} {x:VerA} {sv rsrc rs rs':Value} {L:List MV} {y:MV} (h:CpS w W p1 p2 x sv rsrc rs L) (hro:RunsOwn w2 w.heap.size rs' (L ++ [y])) (hu:Upd (fun k=>rs.ownBlock=some k) W w2)
  (hf1:∀k,y.f.ownBlock=some k→w.heap.size≤k∧k∉sv.ownBlock.toList++keyBlocks L) (hf2:∀k,y.l.ownBlock=some k→w.heap.size≤k∧k∉sv.ownBlock.toList++keyBlocks L) (hf3:∀k,y.f.ownBlock=some k→y.l.ownBlock≠some k) :
  CpS w w2 p1 p2 x sv rsrc rs' (L ++ [y]):=by
 have hty:∀k,rs.ownBlock=some k→∃cur,W.heap[k]? = some (.cells cur 48 (0,0))∧w.heap.size≤k:=by
  intro k hk
  obtain ⟨-,hh2⟩:=h.runs.row
  rcases hh2 with ⟨rfl,-⟩|⟨g,cap,cur',rfl,hb,hg',-⟩
  ·cases hk
  ·simp only [Value.ownBlock,Option.some.injEq] at hk
   subst hk
   exact ⟨_,hg',hb⟩
 have hT:∀k,rs.ownBlock=some k→∀cur fr,W.heap[k]?≠some (.cells cur 5 fr):=by
  intro k hk cur fr
  obtain ⟨cur',hc,-⟩:=hty k hk
  exact not_ty hc (by decide) cur fr
 refine ⟨h.upd.trans hu (fun k hk e=>by obtain ⟨_,_,h9⟩:=hty k e;omega),hu.get h.r1 (fun e=>by obtain ⟨cur,hc,-⟩:=hty _ e;exact not_ty h.r1 (by decide) _ _ hc),hu.get h.r2 (fun e=>by obtain ⟨cur,hc,-⟩:=hty _ e;exact not_ty h.r2 (by decide) _ _ hc),h.n1,h.n2,h.ne,h.st.keepT hu hT,hro,?_⟩
 have e:sv.ownBlock.toList++keyBlocks (L ++ [y])=(sv.ownBlock.toList++keyBlocks L)++(y.f.ownBlock.toList++y.l.ownBlock.toList):=by simp [keyBlocks]
 rw [e]
 refine ⟨List.nodup_append.2 ⟨h.own.1,?_,?_⟩,?_⟩
 ·refine List.nodup_append.2 ⟨by cases y.f.ownBlock<;>simp,by cases y.l.ownBlock<;>simp,?_⟩
  intro a ha b hb hab
  subst hab
  exact hf3 a (by simpa using ha) (by simpa using hb)
 ·intro a ha b hb hab
  subst hab
  rcases List.mem_append.1 hb with hb|hb
  ·exact (hf1 a (by simpa using hb)).2 ha
  ·exact (hf2 a (by simpa using hb)).2 ha
 ·intro k hk
  rcases List.mem_append.1 hk with hk|hk
  ·exact h.own.2 k hk
  ·rcases List.mem_append.1 hk with hk|hk
   ·exact (hf1 k (by simpa using hk)).1
   ·exact (hf2 k (by simpa using hk)).1
theorem copied_any {w:World} {v:Value} {x:VerA} (hv:VerAt w v x) (hin:VerIn x) :
  Calls Tryz.prog 16 #[v] w fun e w'=>∃v',e=.returned v'∧VerOwn w' w.heap.size v' x∧Upd (fun _=>False) w w':=by
 have HV:=hid hv;have Kz:=hid hin
 obtain ⟨s1,d1,s2,d2,rfl,hb,hr⟩:=hv
 have HB:=hid hb;have Za:=hid hr
 obtain ⟨m1,hm1⟩:∃m,m=x.state.length:=⟨_,rfl⟩
 obtain ⟨nx,hnx⟩:∃m,m=x.runs.length:=⟨_,rfl⟩
 rw [←hm1] at HB⊢
 rw [←hnx] at Za⊢
 have Kn:=hid hm1;have Ko:=hid hnx
 have hnb:nx*96≤140737488351232:=by rw [hnx];exact hin.2.2.2.2.2.2.1
 clear hin hb hr hm1 hnx
 have hu2:=((Upd.refl (fun _=>False) w).alloc (.cells #[.int .i64 x.gen,.int .i64 x.flushed,.int .i64 x.next,.int .i64 x.low,.int .i64 x.clock,.slice s1 m1 d1,.slice s2 nx d2] 25)).alloc (.cells #[.int .i64 0,.int .i64 0,.int .i64 0,.int .i64 0,.int .i64 0,.slice none 0 0,.slice none 0 0] 25)
 have hra:=heap_alloc_new w (.cells #[.int .i64 x.gen,.int .i64 x.flushed,.int .i64 x.next,.int .i64 x.low,.int .i64 x.clock,.slice s1 m1 d1,.slice s2 nx d2] 25)
 have hra2:((w.alloc (.cells #[.int .i64 x.gen,.int .i64 x.flushed,.int .i64 x.next,.int .i64 x.low,.int .i64 x.clock,.slice s1 m1 d1,.slice s2 nx d2] 25)).alloc (.cells #[.int .i64 0,.int .i64 0,.int .i64 0,.int .i64 0,.int .i64 0,.slice none 0 0,.slice none 0 0] 25)).heap[w.heap.size]? = some (.cells #[.int .i64 x.gen,.int .i64 x.flushed,.int .i64 x.next,.int .i64 x.low,.int .i64 x.clock,.slice s1 m1 d1,.slice s2 nx d2] 25 (0,0)):=by rw [heap_alloc_past _ _ _ (by simp)];exact hra
 have hrb:=heap_alloc_new (w.alloc (.cells #[.int .i64 x.gen,.int .i64 x.flushed,.int .i64 x.next,.int .i64 x.low,.int .i64 x.clock,.slice s1 m1 d1,.slice s2 nx d2] 25)) (.cells #[.int .i64 0,.int .i64 0,.int .i64 0,.int .i64 0,.int .i64 0,.slice none 0 0,.slice none 0 0] 25)
 rw [World.size_alloc] at hrb
 go_enter Tryz.func16,Tryz.ntmps16
 go_upto_region 1 with fail
 obtain ⟨p1,hp1⟩:∃p,p=w.heap.size:=⟨_,rfl⟩
 obtain ⟨p2,hp2⟩:∃p,p=w.heap.size+1:=⟨_,rfl⟩
 rw [←hp1] at hra2
 rw [←hp2] at hrb
 rw [←hp2,←hp1]
 have Ki:=hid hu2;have Ke:=hid hra2;have Kp:=hid hrb
 have Zr:=hid (show w.heap.size≤p1∧w.heap.size≤p2∧p1≠p2 from ⟨by omega,by omega,by omega⟩)
 generalize (w.alloc (.cells #[.int .i64 x.gen,.int .i64 x.flushed,.int .i64 x.next,.int .i64 x.low,.int .i64 x.clock,.slice s1 m1 d1,.slice s2 nx d2] 25)).alloc (.cells #[.int .i64 0,.int .i64 0,.int .i64 0,.int .i64 0,.int .i64 0,.slice none 0 0,.slice none 0 0] 25)=W2 at Ki Ke Kp⊢
 clear hu2 hra hra2 hrb hp1 hp2
 obtain ⟨⟨z0,z1,z2,z3,z4,z5,z6⟩,⟨f0,f1,f2,f3,f4,f5,f6⟩,hzl⟩:=verCells Ke.out
 have hpt:=refPart_any (b:=x.state) (cap:=d1) (ao:=s1) (by have h:=HB.out.keep Ki.out;rw [Kn.out] at h;exact h) (lo:=0) (hi:=x.state.length) (by omega) (by omega) Kz.out.2.2.2.2.2.1
 rw [List.drop_zero,Nat.sub_zero,List.take_length,←Kn.out] at hpt
 have Ka:=hid hpt
 clear hpt z0 z1 z2 z3 z4 z6 f0 f1 f2 f3 f4 f6
 go_wp2_with fail
 refine Ka.out.mono ?_
 rintro e W3 ⟨v3,rfl,hn3⟩
 obtain ⟨a3,c3,e3,-,-⟩:=hn3.shape
 rw [←Kn.out] at e3
 subst e3
 have hr3:=hn3.upd.get Ke.out (fun e=>e)
 obtain ⟨⟨z0,z1,z2,z3,z4,z5',z6⟩,⟨f0,f1,f2,f3,f4,f5',f6⟩,hzl'⟩:=verCells hr3
 have Zb:=hid hr3;have Kb:=hid hn3
 clear hn3 hr3 z0 z1 z2 z3 z4 z6 f0 f1 f2 f3 f4 f6 z5 f5 hzl Ka
 go_upto_region 2 with fail
 have hu4:Upd (fun k=>k=p1) W3 (W3.setCell ⟨p1,5,none⟩ (.slice a3 m1 c3)):=Upd.cell_only _ _ _ _
 have hr4:=heap_setCell_at W3 p1 5 _ _ (.slice a3 m1 c3) Zb.out
 have hcp:CpS w (W3.setCell ⟨p1,5,none⟩ (.slice a3 m1 c3)) p1 p2 x (.slice a3 m1 c3) (.slice s2 nx d2) (.slice none 0 0) []:=by
  obtain ⟨q1,q2,q3⟩:=Zr.out
  refine ⟨(Ki.out.trans Kb.out.upd (fun _ _ e=>e)).trans hu4 (fun k hk e=>by omega),by simpa [verC] using hr4,hu4.get (Kb.out.upd.get Kp.out (fun e=>e)) (fun e=>q3 e.symm),q1,q2,q3,Kb.out.data.upd hu4 (fun k e e2=>?_),RunsOwn.nil _ _,own_one (fun k e=>Nat.le_trans Ki.out.size (Kb.out.new k e))⟩
  have h1:=Kb.out.new k e
  have h2:=lt_of_heap Ke.out
  omega
 have Kq:=hid hcp
 generalize W3.setCell ⟨p1,5,none⟩ (.slice a3 m1 c3)=W4 at Kq⊢
 clear hu4 hr4 hcp Kb Zb Ke Kp z5' f5' hzl'
 go_wp2
 go_loopw [3,4] (fun lv iv wr=>∃k:Nat,iv=.int .i64 k∧k≤nx∧∃ra rc L,lv=.slice ra (L:List MV).length rc∧CpS w wr p1 p2 x (.slice a3 m1 c3) (.slice s2 nx d2) (.slice ra L.length rc) L∧L.map MV.m=x.runs.take k) (fun _ iv _=>nx-(intOf iv).toNat)
 case atStart=>exact ⟨0,rfl,by omega,none,0,[],rfl,Kq.out,rfl⟩
 case round=>
  obtain ⟨k,rfl,hk,ra,rc,L,rfl,hcp,hLk⟩:=hrel
  have HC:=hid hcp;have Zc:=hid hLk
  obtain ⟨wo,rfl⟩:∃wo,wo=wr:=⟨_,rfl⟩
  have Zd:=hid (show L.length=k from by have h:=congrArg List.length hLk;rw [List.length_map,List.length_take] at h;have:=Ko.out;omega)
  obtain ⟨LL,hLL⟩:∃LL,LL=L.length:=⟨_,rfl⟩
  rw [←hLL] at HC⊢
  have Kr:=hid hLL
  clear hcp hLk hLL Kq
  obtain ⟨⟨z0,z1,z2,z3,z4,z5,z6⟩,⟨f0,f1,f2,f3,f4,f5,f6⟩,hzl⟩:=verCells HC.out.r1
  clear z0 z1 z2 z3 z4 z5 f0 f1 f2 f3 f4 f5
  by_cases hlt:k<nx
  ·have hkx:k<x.runs.length:=by have:=Ko.out;omega
   have h1:=Za.out.keep HC.out.upd
   obtain ⟨xa,xc,ex,hx1,hx2,hx3⟩:=h1
   injection ex with ex1 ex2 ex3
   subst ex1;subst ex3
   clear ex2
   obtain ⟨bx,ox,g1,k1,g2,k2,rfl,hbx,t0,t1,t2,t3,t4,t5,t6,t7,hB1,hB2⟩:=hx3 k hkx
   obtain ⟨r,hr⟩:∃r,r=x.runs[k]:=⟨_,rfl⟩
   rw [←hr] at t0 t1 t2 t3 t4 t5 t6 t7 hB1 hB2
   have Ze:=hid (show MetaIn r from by rw [hr];exact Kz.out.2.2.2.2.2.2.2 _ (List.getElem_mem hkx))
   have Zs:=hid (show x.runs.take (k+1)=x.runs.take k ++ [r] from by rw [hr,List.take_succ_eq_append_getElem hkx])
   obtain ⟨l1,hl1⟩:∃l,l=r.first.length:=⟨_,rfl⟩
   obtain ⟨l2,hl2⟩:∃l,l=r.last.length:=⟨_,rfl⟩
   rw [←hl1] at t6 hB1
   rw [←hl2] at t7 hB2
   have Ks:=hid hl1;have Kt:=hid hl2;have Zt:=hid hB1;have Zu:=hid hB2
   have hxc:(k:Int)<(d2:Int):=by omega
   have hu5:=(Upd.refl (fun _=>False) wo).alloc (.cells #[.int .i64 r.num,.int .i64 r.count,.int .i64 r.index,.int .i64 r.low,.int .i64 r.clock,.int .i64 r.bytes,.slice g1 l1 k1,.slice g2 l2 k2] 48)
   have hr5:=heap_alloc_new wo (.cells #[.int .i64 r.num,.int .i64 r.count,.int .i64 r.index,.int .i64 r.low,.int .i64 r.clock,.int .i64 r.bytes,.slice g1 l1 k1,.slice g2 l2 k2] 48)
   clear hx3 hB1 hB2 hr hkx hx1 hx2 hl1 hl2
   go_upto_region 7 with fail
   obtain ⟨p5,hp5⟩:∃p,p=wo.heap.size:=⟨_,rfl⟩
   rw [←hp5] at hr5⊢
   have Zf:=hid hp5;have Kj:=hid hu5;have Kc:=hid hr5
   generalize wo.alloc (.cells #[.int .i64 r.num,.int .i64 r.count,.int .i64 r.index,.int .i64 r.low,.int .i64 r.clock,.int .i64 r.bytes,.slice g1 l1 k1,.slice g2 l2 k2] 48)=W5 at Kj Kc⊢
   have Zg:=hid (lt_of_heap Kc.out)
   clear hu5 hr5 hp5 t0 t1 t2 t3 t4 t5 t6 t7 z6 f6 hzl
   have hpt:=refPart_any (b:=r.first) (cap:=k1) (ao:=g1) (by have h:=Zt.out.keep Kj.out;rw [Ks.out] at h;exact h) (lo:=0) (hi:=r.first.length) (by omega) (by omega) Ze.out.2.2.2.2.2.2.1
   rw [List.drop_zero,Nat.sub_zero,List.take_length,←Ks.out] at hpt
   have Ka:=hid hpt
   obtain ⟨⟨z0,z1,z2,z3,z4,z5,z6,z7⟩,f6,f7,hzl⟩:=metaCells Kc.out
   clear hpt z0 z1 z2 z3 z4 z5 z7
   go_wp2_with fail
   refine Ka.out.mono ?_
   rintro e W6 ⟨v6,rfl,hn6⟩
   obtain ⟨a6,c6,e6,-,-⟩:=hn6.shape
   rw [←Ks.out] at e6
   subst e6
   have Ku:=hid (hn6.upd.get Kc.out (fun e=>e));have Kf:=hid hn6
   clear z6 f6 f7 hzl Ka hn6
   obtain ⟨⟨z0,z1,z2,z3,z4,z5,z6,z7⟩,f6,f7,hzl⟩:=metaCells Ku.out
   clear z0 z1 z2 z3 z4 z5 z7
   go_upto_region 8 with fail
   have hu7:Upd (fun k=>k=p5) W6 (W6.setCell ⟨p5,6,none⟩ (.slice a6 l1 c6)):=Upd.cell_only _ _ _ _
   have hr7:=heap_setCell_at W6 p5 6 _ _ (.slice a6 l1 c6) Ku.out
   have Kg:=hid (show (W6.setCell ⟨p5,6,none⟩ (.slice a6 l1 c6)).heap[p5]? = some (.cells #[.int .i64 r.num,.int .i64 r.count,.int .i64 r.index,.int .i64 r.low,.int .i64 r.clock,.int .i64 r.bytes,.slice a6 l1 c6,.slice g2 l2 k2] 48 (0,0)) from by simpa using hr7)
   have Kk:=hid (show Upd (fun _=>False) wo (W6.setCell ⟨p5,6,none⟩ (.slice a6 l1 c6)) from (Kj.out.trans Kf.out.upd (fun _ _ e=>e)).trans hu7 (fun k hk e=>by have:=Zf.out;omega))
   have Kv:=hid (Kf.out.data.upd hu7 (fun k e e2=>by have h1:=Kf.out.new k e;have h2:=lt_of_heap Kc.out;omega))
   have Zv:=hid (show ∀k,(Value.slice a6 l1 c6).ownBlock=some k→wo.heap.size≤k from fun k e=>Nat.le_trans Kj.out.size (Kf.out.new k e))
   generalize W6.setCell ⟨p5,6,none⟩ (.slice a6 l1 c6)=W7 at Kg Kk Kv⊢
   clear hu7 hr7 z6 f6 f7 hzl Ku Kc
   have hpt:=refPart_any (b:=r.last) (cap:=k2) (ao:=g2) (by have h:=Zu.out.keep Kk.out;rw [Kt.out] at h;exact h) (lo:=0) (hi:=r.last.length) (by omega) (by omega) Ze.out.2.2.2.2.2.2.2
   rw [List.drop_zero,Nat.sub_zero,List.take_length,←Kt.out] at hpt
   have Ka:=hid hpt
   obtain ⟨⟨z0,z1,z2,z3,z4,z5,z6,z7⟩,f6,f7,hzl⟩:=metaCells Kg.out
   clear hpt z0 z1 z2 z3 z4 z5 z6
   go_wp2_with fail
   refine Ka.out.mono ?_
   rintro e W8 ⟨v8,rfl,hn8⟩
   obtain ⟨a8,c8,e8,-,-⟩:=hn8.shape
   rw [←Kt.out] at e8
   subst e8
   have Kw:=hid (hn8.upd.get Kg.out (fun e=>e));have Kd:=hid hn8
   clear z7 f6 f7 hzl Ka hn8
   obtain ⟨⟨z0,z1,z2,z3,z4,z5,z6,z7⟩,f6,f7,hzl⟩:=metaCells Kw.out
   clear z0 z1 z2 z3 z4 z5 z6
   go_upto_region 9 with fail
   have hu9:Upd (fun k=>k=p5) W8 (W8.setCell ⟨p5,7,none⟩ (.slice a8 l2 c8)):=Upd.cell_only _ _ _ _
   have hr9:=heap_setCell_at W8 p5 7 _ _ (.slice a8 l2 c8) Kw.out
   have Zh:=hid (show (W8.setCell ⟨p5,7,none⟩ (.slice a8 l2 c8)).heap[p5]? = some (.cells #[.int .i64 r.num,.int .i64 r.count,.int .i64 r.index,.int .i64 r.low,.int .i64 r.clock,.int .i64 r.bytes,.slice a6 l1 c6,.slice a8 l2 c8] 48 (0,0)) from by simpa using hr9)
   have Zi:=hid (show Upd (fun _=>False) wo (W8.setCell ⟨p5,7,none⟩ (.slice a8 l2 c8)) from (Kk.out.trans Kd.out.upd (fun _ _ e=>e)).trans hu9 (fun k hk e=>by have:=Zf.out;omega))
   have Zj:=hid (Kd.out.data.upd hu9 (fun k e e2=>by have h1:=Kd.out.new k e;have h2:=lt_of_heap Kg.out;omega))
   have Kl:=hid ((Kv.out.upd Kd.out.upd (fun _ _ e=>e)).upd hu9 (fun k e e2=>by have h1:=Kf.out.new k e;have h2:=Zg.out;omega))
   have Zk:=hid (show ∀k,(Value.slice a8 l2 c8).ownBlock=some k→wo.heap.size≤k∧(Value.slice a6 l1 c6).ownBlock≠some k from fun k e=>⟨Nat.le_trans Kk.out.size (Kd.out.new k e),fun e2=>by have h1:=Kd.out.new k e;have h2:=Kv.out.lt k e2;omega⟩)
   generalize W8.setCell ⟨p5,7,none⟩ (.slice a8 l2 c8)=W9 at Zh Zi Zj Kl⊢
   clear hu9 hr9 z7 f6 f7 hzl Kw Kg
   have Kx:=hid (HC.out.keep Zi.out)
   obtain ⟨ao,cap,w10,hrun,hro,hu10⟩:=Kx.out.runs.push2 ⟨r,.slice a6 l1 c6,.slice a8 l2 c8⟩ Kl.out Zj.out Kx.out.upd.size (by have:=Zd.out;omega) rfl
   have hj:=Kx.out.join hro hu10 (fun k e=>HC.out.fresh (Zv.out k e)) (fun k e=>HC.out.fresh (Zk.out k e).1) (fun k e e2=>(Zk.out k e2).2 e)
   rw [←Kr.out] at hrun hj
   have Zl:Hid ((Builtin.append_ #[23,23] 23 #[.slice ra LL rc,.slice (some ⟨W9.heap.size,0,none⟩) 1 1]).run Tryz.prog (W9.alloc (.cells #[.int .i64 r.num,.int .i64 r.count,.int .i64 r.index,.int .i64 r.low,.int .i64 r.clock,.int .i64 r.bytes,.slice a6 l1 c6,.slice a8 l2 c8] 48))=.ok (.slice ao (LL+1) cap) w10):=hid hrun
   have HJ:=hid hj
   obtain ⟨⟨z0,z1,z2,z3,z4,z5,z6,z7⟩,f6,f7,hzl⟩:=metaCells Zh.out
   clear hrun hro hu10 hj
   go_wp2_with (at_builtin;refine wpList_append_run rfl _ _ _ rfl rfl rfl Zl.out ?_)
   go_roundw
   case rel=>exact ⟨k+1,by simp,by omega,ao,cap,L ++ [⟨r,.slice a6 l1 c6,.slice a8 l2 c8⟩],by rw [List.length_append,List.length_singleton,←Kr.out],by rw [List.length_append,List.length_singleton,←Kr.out];exact HJ.out,by rw [List.map_append,Zc.out,Zs.out];rfl⟩
   case measure=>simp [intOf];omega
  ·obtain rfl:k=nx:=by omega
   have Zm:=hid (show L.map MV.m=x.runs from by rw [Zc.out,Ko.out,List.take_length])
   have hq:Upd (fun k=>k=p1) wo (wo.setCell ⟨p1,6,none⟩ (.slice ra LL rc)):=Upd.cell_only _ _ _ _
   have hq1:=heap_setCell_at wo p1 6 _ _ (.slice ra LL rc) HC.out.r1
   have hq2:=hq.get HC.out.r2 (fun e=>HC.out.ne e.symm)
   go_upto_region 11 with fail
   have HQ:=hid hq;have Zn:=hid (show (wo.setCell ⟨p1,6,none⟩ (.slice ra LL rc)).heap[p1]? = some (.cells (verC x.gen x.flushed x.next x.low x.clock (.slice a3 m1 c3) (.slice ra LL rc)) 25 (0,0)) from by simpa [verC] using hq1);have Kh:=hid hq2
   have Zo:=hid (show ∀k,k=p1→∀cur fr,wo.heap[k]?≠some (.cells cur 5 fr)∧wo.heap[k]?≠some (.cells cur 48 fr) from by rintro k rfl cur fr;exact ⟨not_ty HC.out.r1 (by decide) cur fr,not_ty HC.out.r1 (by decide) cur fr⟩)
   have Zp:=hid (HC.out.st.keepT hq (fun k e cur fr=>(Zo.out k e cur fr).1))
   have Zq:=hid (HC.out.runs.keepT hq Zo.out)
   generalize wo.setCell ⟨p1,6,none⟩ (.slice ra LL rc)=Wa at HQ Zn Kh Zp Zq⊢
   clear hq hq1 hq2 z6 f6 hzl
   obtain ⟨⟨z0,z1,z2,z3,z4,z5,z6⟩,-,hzl⟩:=verCells Zn.out
   obtain ⟨⟨y0,y1,y2,y3,y4,y5,y6⟩,⟨f0,f1,f2,f3,f4,f5,f6⟩,hyl⟩:=verCells Kh.out
   have HO:=hid (verOut_at Kh.out x.gen x.flushed x.next x.low x.clock (.slice a3 m1 c3) (.slice ra LL rc))
   have Ky:=hid (verOut_upd (S:=fun k=>k=p2) (Upd.refl _ Wa) (p:=p2) (fun _=>rfl) x.gen x.flushed x.next x.low x.clock (.slice a3 m1 c3) (.slice ra LL rc))
   have Km:=hid (show ∀k,k=p2→∀cur fr,Wa.heap[k]?≠some (.cells cur 5 fr)∧Wa.heap[k]?≠some (.cells cur 48 fr) from by rintro k rfl cur fr;exact ⟨not_ty Kh.out (by decide) cur fr,not_ty Kh.out (by decide) cur fr⟩)
   have hne2:p1≠p2:=HC.out.ne
   go_wp2
   (try simp only [Exit.inBlock,Exit.then])
   refine bodyPost_ret (results_ver1 rfl _ _ p2 _ rfl rfl HO.out) rfl ?_
   refine ⟨_,rfl,⟨_,_,L,rfl,Zp.out.keepT Ky.out (fun k e cur fr=>(Km.out k e cur fr).1),Zq.out.keepT Ky.out Km.out,Zm.out.symm,HC.out.own.1,HC.out.own.2⟩,?_⟩
   exact (HC.out.upd.trans HQ.out (fun k hk e=>by have:=HC.out.n1;omega)).trans Ky.out (fun k hk e=>by have:=HC.out.n2;omega)
end Go.Proofs.YtgaidmohdhaonaaGreatDoor
