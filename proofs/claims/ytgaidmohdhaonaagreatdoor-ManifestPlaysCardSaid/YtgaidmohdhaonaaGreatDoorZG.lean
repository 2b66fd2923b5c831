/-
  stratalaw10.laid: a version whose lists are cut out of longer ones.
-/
import Derived.Test.YtgaidmohdhaonaaGreatDoorZC
import Derived.Test.YtgaidmohdhaonaaGreatDoorYT
import Derived.Test.YtgaidmohdhaonaaGreatDoorZF
import Derived.Test.YtgaidmohdhaonaaGreatDoorYP
set_option linter.unusedVariables false
set_option linter.unusedSimpArgs false
set_option linter.unnecessarySimpa false
set_option linter.unusedSectionVars false
set_option maxRecDepth 100000
set_option maxHeartbeats 6400000
namespace Go.Proofs.YtgaidmohdhaonaaGreatDoor
open Go Go.RowKit
structure WB where
 g:Nat
 c:Nat
 b:List UInt8
def WB.full (y:WB):Value:=.slice (some ⟨y.g,0,none⟩) (y.b.length+5) y.c
def markA:MetaA:=⟨-77,0,0,0,0,0,[],[]⟩
def markV:MV:=⟨markA,.slice none 0 0,.slice none 0 0⟩
theorem part_of {W:World} {g c:Nat} {b:List UInt8} (h:DataIs W (.slice (some ⟨g,0,none⟩) (b.length+5) c) (b++tailB)):DataIs W (.slice (some ⟨g,0,none⟩) b.length c) b:=by
 rcases h with ⟨h,-⟩|⟨g',cap,cur,e,hg,h1,h2,h3,h4⟩
 ·cases h
 ·injection e with e1 e2 e3
  injection e1 with e1
  injection e1 with e1
  subst e1;subst e3
  refine .inr ⟨g,c,cur,rfl,hg,?_,h2,h3,?_⟩
  ·simp at h1;omega
  ·have h5:=congrArg (List.take b.length) h4
   rw [List.take_take,List.length_append,Nat.min_eq_left (by omega),List.map_append,List.take_left' (by simp)] at h5
   exact h5
theorem Tryz.infoBytes:(Tryz.prog.info? 22).map (fun i=>(i.zero,i.size,i.bytes))=some (some (.slice none 0 0),1,24):=by kernel_rfl
structure WLs (w W:World) (wv:Value) (WL:List WB):Prop where
 data:∀y∈WL,DataIs W y.full (y.b++tailB)
 row:W.ownsRow w.heap.size 22 1 wv WL.length (WL.map WB.full)
theorem WLs.keep {w W W1:World} {wv:Value} {WL:List WB} (h:WLs w W wv WL) (hu:Upd (fun _=>False) W W1):WLs w W1 wv WL:=
 ⟨fun y hy=>(h.data y hy).upd hu (fun _ _ e=>e),owns_upd h.row hu (fun _ _ e=>e)⟩
theorem WLs.keepT {S:Nat→Prop} {w W W1:World} {wv:Value} {WL:List WB} (h:WLs w W wv WL) (hu:Upd S W W1) (hS:∀k,S k→∀cur fr,W.heap[k]?≠some (.cells cur 5 fr)∧W.heap[k]?≠some (.cells cur 22 fr)):WLs w W1 wv WL:=by
 refine ⟨fun y hy=>(h.data y hy).keepT hu (fun k e cur fr=>(hS k e cur fr).1),?_⟩
 obtain ⟨hl,hr⟩:=h.row
 refine ⟨hl,?_⟩
 rcases hr with ⟨rfl,h0⟩|⟨g,cap,cur,rfl,hb,hg,h2,h3,h4,h5⟩
 ·exact .inl ⟨rfl,h0⟩
 ·exact .inr ⟨g,cap,cur,rfl,hb,hu.get hg (fun e=>(hS g e _ _).2 hg),h2,h3,h4,h5⟩
theorem WLs.ty {w W:World} {wv:Value} {WL:List WB} (h:WLs w W wv WL):∀k,wv.ownBlock=some k→∃cur,W.heap[k]? = some (.cells cur 22 (0,0))∧w.heap.size≤k:=by
 intro k hk
 obtain ⟨-,hr⟩:=h.row
 rcases hr with ⟨rfl,-⟩|⟨g,cap,cur,rfl,hb,hg,-⟩
 ·cases hk
 ·simp only [Value.ownBlock,Option.some.injEq] at hk
  subst hk
  exact ⟨_,hg,hb⟩
theorem WLs.shape {w W:World} {wv:Value} {WL:List WB} (h:WLs w W wv WL):∃ao cap,wv=.slice ao WL.length cap:=by
 obtain ⟨-,hr⟩:=h.row
 rcases hr with ⟨rfl,h0⟩|⟨g,cap,cur,rfl,hb,hg,-⟩
 ·exact ⟨none,0,by rw [h0]⟩
 ·exact ⟨_,cap,rfl⟩
theorem WLs.push {w W:World} {wv:Value} {WL:List WB} (h:WLs w W wv WL) (hw:w.heap.size≤W.heap.size) {y z:WB} (hy:DataIs W y.full (y.b++tailB)) (hz:DataIs W z.full (z.b++tailB)) (hn:(WL.length+2)*24≤140737488355328) :
  ∃ao cap w2,(Builtin.append_ #[43,43] 43 #[wv,.slice (some ⟨W.heap.size,0,none⟩) 2 2]).run Tryz.prog (W.alloc (.cells #[y.full,z.full] 22))=.ok (.slice ao (WL.length+2) cap) w2∧WLs w w2 (.slice ao (WL.length+2) cap) (WL ++ [y,z])∧Upd (fun k=>wv.ownBlock=some k) W w2:=by
 obtain ⟨i0,hi,hz0,hz1,hz2⟩:=info_parts Tryz.infoBytes
 have hu:Upd (fun _=>False) W (W.alloc (.cells #[y.full,z.full] 22)):=(Upd.refl _ _).alloc _
 have hrow1:=owns_upd h.row hu (fun _ _ e=>e)
 have hblk:=heap_alloc_new W (.cells #[y.full,z.full] 22)
 obtain ⟨v',w2,hr,hown,hg,-⟩:=run_append_own (P:=Tryz.prog) (W.alloc (.cells #[y.full,z.full] 22)) w.heap.size 43 43 22 i0 _ 1 24 Tryz.underlying43 hi hz0 hz1 hz2 rfl (by decide) wv WL.length _ hrow1 ⟨W.heap.size,0,none⟩ 2 2 [y.full,z.full] rfl
  (World.news_of_block (cs:=#[y.full,z.full]) hblk) (by intro u hu;simp only [List.mem_cons,List.not_mem_nil,or_false] at hu;rcases hu with rfl|rfl<;>rfl) (by unfold maxLen;omega) (by omega) (Nat.le_trans hw hu.size)
 have hup:Upd (fun k=>wv.ownBlock=some k) W w2:=(hu.mono (fun _ _ e=>e.elim)).grown hg (fun k hk _=>hk)
 have hT:∀k,wv.ownBlock=some k→∀cur fr,W.heap[k]?≠some (.cells cur 5 fr):=by
  intro k hk cur fr
  obtain ⟨cur',hc,-⟩:=h.ty k hk
  exact not_ty hc (by decide) cur fr
 have hro:WLs w w2 v' (WL ++ [y,z]):=by
  refine ⟨fun u hu=>?_,by simpa using hown⟩
  rcases List.mem_append.1 hu with hu|hu
  ·exact (h.data u hu).keepT hup hT
  ·simp only [List.mem_cons,List.not_mem_nil,or_false] at hu
   rcases hu with rfl|rfl
   ·exact hy.keepT hup hT
   ·exact hz.keepT hup hT
 obtain ⟨ao,cap,hv'⟩:=hro.shape
 rw [List.length_append,show [y,z].length=2 from rfl] at hv'
 subst hv'
 exact ⟨ao,cap,w2,hr,hro,hup⟩
theorem CpS.keepW {S:Nat→Prop} {w W W1:World} {p1 p2:Nat} {x:VerA} {sv rsrc rs:Value} {L:List MV} (h:CpS w W p1 p2 x sv rsrc rs L) (hu:Upd S W W1) (hS:∀k,S k→∃cur,W.heap[k]? = some (.cells cur 22 (0,0))∧w.heap.size≤k):CpS w W1 p1 p2 x sv rsrc rs L:=by
 have hn:∀k,S k→∀cur fr,W.heap[k]?≠some (.cells cur 5 fr)∧W.heap[k]?≠some (.cells cur 48 fr):=by
  intro k hk cur fr
  obtain ⟨c,hc,-⟩:=hS k hk
  exact ⟨not_ty hc (by decide) cur fr,not_ty hc (by decide) cur fr⟩
 have hv:∀k,S k→∀cur fr,W.heap[k]?≠some (.cells cur 25 fr):=by
  intro k hk cur fr
  obtain ⟨c,hc,-⟩:=hS k hk
  exact not_ty hc (by decide) cur fr
 exact ⟨h.upd.trans hu (fun k hk e=>by obtain ⟨_,_,h9⟩:=hS k e;omega),hu.get h.r1 (fun e=>hv _ e _ _ h.r1),hu.get h.r2 (fun e=>hv _ e _ _ h.r2),h.n1,h.n2,h.ne,h.st.keepT hu (fun k e cur fr=>(hn k e cur fr).1),h.runs.keepT hu hn,h.own⟩
structure LaidAt (w W:World) (v wv:Value) (x:VerA) (sv:Value) (gr cr:Nat) (L:List MV) (WL:List WB):Prop where
 eq:v=.agg #[.int .i64 x.gen,.int .i64 x.flushed,.int .i64 x.next,.int .i64 x.low,.int .i64 x.clock,sv,.slice (some ⟨gr,0,none⟩) x.runs.length cr]
 st:DataIs W sv x.state
 runs:RunsOwn W w.heap.size (.slice (some ⟨gr,0,none⟩) (x.runs.length+1) cr) (L ++ [markV])
 map:L.map MV.m=x.runs
 arr:WLs w W wv WL
 link:WL.map WB.g=sv.ownBlock.toList++keyBlocks L
 own:(sv.ownBlock.toList++keyBlocks L).Nodup∧∀k∈sv.ownBlock.toList++keyBlocks L,w.heap.size≤k
theorem laid_any {w:World} {v:Value} {x:VerA} (hv:VerAt w v x) (hin:VerIn x) :
  Calls Tryz.prog 114 #[v] w fun e w'=>∃v' wv sv gr cr L WL,e=.returned (.tuple #[v',wv])∧LaidAt w w' v' wv x sv gr cr L WL∧Upd (fun _=>False) w w':=by
 have HV:=hid hv;have Zo:=hid hin
 obtain ⟨s1,d1,s2,d2,rfl,hb,hr⟩:=hv
 have HB:=hid hb;have Zp:=hid hr
 obtain ⟨m1,hm1⟩:∃m,m=x.state.length:=⟨_,rfl⟩
 obtain ⟨nx,hnx⟩:∃m,m=x.runs.length:=⟨_,rfl⟩
 rw [←hm1] at HB⊢
 rw [←hnx] at Zp⊢
 have Ki:=hid hm1;have Kj:=hid hnx
 have hnb:nx*96≤140737488351232:=by rw [hnx];exact hin.2.2.2.2.2.2.1
 clear hin hb hr hm1 hnx
 have hu2:=((Upd.refl (fun _=>False) w).alloc (.cells #[.int .i64 x.gen,.int .i64 x.flushed,.int .i64 x.next,.int .i64 x.low,.int .i64 x.clock,.slice s1 m1 d1,.slice s2 nx d2] 25)).alloc (.cells #[.int .i64 0,.int .i64 0,.int .i64 0,.int .i64 0,.int .i64 0,.slice none 0 0,.slice none 0 0] 25)
 have hra:=heap_alloc_new w (.cells #[.int .i64 x.gen,.int .i64 x.flushed,.int .i64 x.next,.int .i64 x.low,.int .i64 x.clock,.slice s1 m1 d1,.slice s2 nx d2] 25)
 have hra2:((w.alloc (.cells #[.int .i64 x.gen,.int .i64 x.flushed,.int .i64 x.next,.int .i64 x.low,.int .i64 x.clock,.slice s1 m1 d1,.slice s2 nx d2] 25)).alloc (.cells #[.int .i64 0,.int .i64 0,.int .i64 0,.int .i64 0,.int .i64 0,.slice none 0 0,.slice none 0 0] 25)).heap[w.heap.size]? = some (.cells #[.int .i64 x.gen,.int .i64 x.flushed,.int .i64 x.next,.int .i64 x.low,.int .i64 x.clock,.slice s1 m1 d1,.slice s2 nx d2] 25 (0,0)):=by rw [heap_alloc_past _ _ _ (by simp)];exact hra
 have hrb:=heap_alloc_new (w.alloc (.cells #[.int .i64 x.gen,.int .i64 x.flushed,.int .i64 x.next,.int .i64 x.low,.int .i64 x.clock,.slice s1 m1 d1,.slice s2 nx d2] 25)) (.cells #[.int .i64 0,.int .i64 0,.int .i64 0,.int .i64 0,.int .i64 0,.slice none 0 0,.slice none 0 0] 25)
 rw [World.size_alloc] at hrb
 go_enter Tryz.func114,Tryz.ntmps114
 go_upto_region 1 with fail
 obtain ⟨p1,hp1⟩:∃p,p=w.heap.size:=⟨_,rfl⟩
 obtain ⟨p2,hp2⟩:∃p,p=w.heap.size+1:=⟨_,rfl⟩
 rw [←hp1] at hra2
 rw [←hp2] at hrb
 rw [←hp2,←hp1]
 have Kk:=hid hu2;have Kg:=hid hra2;have Kz:=hid hrb
 have Jf:=hid (show w.heap.size≤p1∧w.heap.size≤p2∧p1≠p2 from ⟨by omega,by omega,by omega⟩)
 generalize (w.alloc (.cells #[.int .i64 x.gen,.int .i64 x.flushed,.int .i64 x.next,.int .i64 x.low,.int .i64 x.clock,.slice s1 m1 d1,.slice s2 nx d2] 25)).alloc (.cells #[.int .i64 0,.int .i64 0,.int .i64 0,.int .i64 0,.int .i64 0,.slice none 0 0,.slice none 0 0] 25)=W2 at Kk Kg Kz⊢
 clear hu2 hra hra2 hrb hp1 hp2
 obtain ⟨⟨z0,z1,z2,z3,z4,z5,z6⟩,⟨f0,f1,f2,f3,f4,f5,f6⟩,hzl⟩:=verCells Kg.out
 have hpt:=wide_any (b:=x.state) (by have h:=HB.out.keep Kk.out;rw [Ki.out] at h;exact h) Zo.out.2.2.2.2.2.1
 rw [←Ki.out] at hpt
 have Kc:=hid hpt
 clear hpt z0 z1 z2 z3 z4 z6 f0 f1 f2 f3 f4 f6
 go_wp2_with fail
 refine Kc.out.mono ?_
 rintro e W3 ⟨g3,c3,rfl,hn3,-⟩
 have Kb:=hid hn3
 clear hn3 z5 f5 hzl Kc
 go_upto_region 3 with fail
 have hu3:=(Upd.refl (fun _=>False) W3).alloc (.cells #[.slice (some ⟨g3,0,none⟩) (m1+5) c3] 22)
 have hrw:=heap_alloc_new W3 (.cells #[.slice (some ⟨g3,0,none⟩) (m1+5) c3] 22)
 have Kr:=hid (hu3.get (Kb.out.upd.get Kg.out (fun e=>e)) (fun e=>e))
 have Kl:=hid (hu3.get (Kb.out.upd.get Kz.out (fun e=>e)) (fun e=>e))
 obtain ⟨pw,hpw⟩:∃p,p=W3.heap.size:=⟨_,rfl⟩
 rw [←hpw] at hrw⊢
 have Za:=hid hpw;have Zb:=hid hrw;have Ks:=hid hu3
 generalize W3.alloc (.cells #[.slice (some ⟨g3,0,none⟩) (m1+5) c3] 22)=W3' at Kr Kl Zb Ks⊢
 clear hu3 hrw hpw
 obtain ⟨⟨z0,z1,z2,z3,z4,z5',z6⟩,⟨f0,f1,f2,f3,f4,f5',f6⟩,hzl'⟩:=verCells Kr.out
 clear z0 z1 z2 z3 z4 z6 f0 f1 f2 f3 f4 f6
 go_upto_region 4 with fail
 have hu4:Upd (fun k=>k=p1) W3' (W3'.setCell ⟨p1,5,none⟩ (.slice (some ⟨g3,0,none⟩) m1 c3)):=Upd.cell_only _ _ _ _
 have hr4:=heap_setCell_at W3' p1 5 _ _ (.slice (some ⟨g3,0,none⟩) m1 c3) Kr.out
 have hUW:Upd (fun _=>False) w W3':=(Kk.out.trans Kb.out.upd (fun _ _ e=>e)).trans Ks.out (fun _ _ e=>e)
 have hful:DataIs W3' (.slice (some ⟨g3,0,none⟩) (x.state.length+5) c3) (x.state++tailB):=by have h:=Kb.out.data.upd Ks.out (fun _ _ e=>e);rw [Ki.out] at h;exact h
 have hg3:g3≠p1:=fun e=>by have h1:=Kb.out.new g3 rfl;have h2:=lt_of_heap Kg.out;omega
 have hg3w:w.heap.size≤g3:=Nat.le_trans Kk.out.size (Kb.out.new g3 rfl)
 have hcp:CpS w (W3'.setCell ⟨p1,5,none⟩ (.slice (some ⟨g3,0,none⟩) m1 c3)) p1 p2 x (.slice (some ⟨g3,0,none⟩) m1 c3) (.slice s2 nx d2) (.slice none 0 0) []:=by
  obtain ⟨q1,q2,q3⟩:=Jf.out
  refine ⟨hUW.trans hu4 (fun k hk e=>by omega),by simpa [verC] using hr4,hu4.get Kl.out (fun e=>q3 e.symm),q1,q2,q3,?_,RunsOwn.nil _ _,own_one (fun k e=>?_)⟩
  ·have h:=part_of hful
   rw [←Ki.out] at h
   exact h.upd hu4 (fun k e e2=>by simp only [Value.ownBlock,Option.some.injEq] at e;omega)
  ·simp only [Value.ownBlock,Option.some.injEq] at e;omega
 have hwl:WLs w (W3'.setCell ⟨p1,5,none⟩ (.slice (some ⟨g3,0,none⟩) m1 c3)) (.slice (some ⟨pw,0,none⟩) 1 1) [⟨g3,c3,x.state⟩]:=by
  refine ⟨fun y hy=>?_,?_⟩
  ·rw [List.mem_singleton] at hy
   subst hy
   exact hful.upd hu4 (fun k e e2=>by simp only [Value.ownBlock,Option.some.injEq] at e;omega)
  ·refine ⟨rfl,.inr ⟨pw,1,_,rfl,by have:=Za.out;have h2:=Kk.out.size;have h3:=Kb.out.upd.size;omega,hu4.get Zb.out (fun e=>by have:=Za.out;have h2:=Kb.out.upd.size;have h3:=lt_of_heap Kg.out;omega),by simp,by unfold maxLen;omega,rfl,?_⟩⟩
   simp [WB.full,←Ki.out]
 have Zc:=hid hcp;have Zd:=hid hwl
 generalize W3'.setCell ⟨p1,5,none⟩ (.slice (some ⟨g3,0,none⟩) m1 c3)=W4 at Zc Zd⊢
 clear hu4 hr4 hcp Kb Kr Kl Kg Kz z5' f5' hzl' hful hg3 hg3w hUW hwl Zb Za Ks
 go_wp2
 go_loopw [6,7,8] (fun wv lv iv wr=>∃k:Nat,iv=.int .i64 k∧k≤nx∧∃ra rc L wa wc WL,lv=.slice ra (L:List MV).length rc∧wv=.slice wa (WL:List WB).length wc∧CpS w wr p1 p2 x (.slice (some ⟨g3,0,none⟩) m1 c3) (.slice s2 nx d2) (.slice ra L.length rc) L∧WLs w wr (.slice wa WL.length wc) WL∧L.map MV.m=x.runs.take k∧WL.map WB.g=g3 :: keyBlocks L) (fun _ _ iv _=>nx-(intOf iv).toNat)
 case atStart=>exact ⟨0,rfl,by omega,none,0,[],some ⟨pw,0,none⟩,1,[⟨g3,c3,x.state⟩],rfl,rfl,Zc.out,Zd.out,rfl,rfl⟩
 case round=>
  obtain ⟨k,rfl,hk,ra,rc,L,wa,wc,WL,rfl,rfl,hcp,hwl,hLk,hlink⟩:=hrel
  have HC:=hid hcp;have Ze:=hid hLk;have HW:=hid hwl;have Ke:=hid hlink
  obtain ⟨wo,rfl⟩:∃wo,wo=wr:=⟨_,rfl⟩
  have hLen:L.length=k:=by have h:=congrArg List.length hLk;rw [List.length_map,List.length_take] at h;have:=Kj.out;omega
  have Ka:=hid hLen
  have Zq:=hid (show WL.length=1+(keyBlocks L).length from by have h:=congrArg List.length hlink;rw [List.length_map,List.length_cons] at h;omega)
  have Zr:=hid (show (keyBlocks L).length≤2*L.length from by
   unfold keyBlocks
   clear hlink hLk hcp hwl HC HW Ke Ze Ka Zq hLen
   induction L with
   | nil=>simp
   | cons y l ih=>
    rw [List.flatMap_cons,List.length_append,List.length_append,List.length_cons]
    have h1:y.f.ownBlock.toList.length≤1:=by cases y.f.ownBlock<;>simp
    have h2:y.l.ownBlock.toList.length≤1:=by cases y.l.ownBlock<;>simp
    omega)
  obtain ⟨LL,hLL⟩:∃LL,LL=L.length:=⟨_,rfl⟩
  obtain ⟨LW,hLW⟩:∃LW,LW=WL.length:=⟨_,rfl⟩
  rw [←hLL] at HC⊢
  rw [←hLW] at HW⊢
  have Kh:=hid hLL;have Zf:=hid hLW
  clear hcp hLk hLL Zc hwl hlink hLW hLen Zd
  obtain ⟨⟨z0,z1,z2,z3,z4,z5,z6⟩,⟨f0,f1,f2,f3,f4,f5,f6⟩,hzl⟩:=verCells HC.out.r1
  clear z0 z1 z2 z3 z4 z5 f0 f1 f2 f3 f4 f5
  by_cases hlt:k<nx
  ·have hkx:k<x.runs.length:=by have:=Kj.out;omega
   have h1:=Zp.out.keep HC.out.upd
   obtain ⟨xa,xc,ex,hx1,hx2,hx3⟩:=h1
   injection ex with ex1 ex2 ex3
   subst ex1;subst ex3
   clear ex2
   obtain ⟨bx,ox,g1,k1,g2,k2,rfl,hbx,t0,t1,t2,t3,t4,t5,t6,t7,hB1,hB2⟩:=hx3 k hkx
   obtain ⟨r,hr⟩:∃r,r=x.runs[k]:=⟨_,rfl⟩
   rw [←hr] at t0 t1 t2 t3 t4 t5 t6 t7 hB1 hB2
   have Zs:=hid (show MetaIn r from by rw [hr];exact Zo.out.2.2.2.2.2.2.2 _ (List.getElem_mem hkx))
   have Jg:=hid (show x.runs.take (k+1)=x.runs.take k ++ [r] from by rw [hr,List.take_succ_eq_append_getElem hkx])
   obtain ⟨l1,hl1⟩:∃l,l=r.first.length:=⟨_,rfl⟩
   obtain ⟨l2,hl2⟩:∃l,l=r.last.length:=⟨_,rfl⟩
   rw [←hl1] at t6 hB1
   rw [←hl2] at t7 hB2
   have Km:=hid hl1;have Kn:=hid hl2;have Jh:=hid hB1;have Ji:=hid hB2
   have hxc:(k:Int)<(d2:Int):=by omega
   have hu5:=(Upd.refl (fun _=>False) wo).alloc (.cells #[.int .i64 r.num,.int .i64 r.count,.int .i64 r.index,.int .i64 r.low,.int .i64 r.clock,.int .i64 r.bytes,.slice g1 l1 k1,.slice g2 l2 k2] 48)
   have hr5:=heap_alloc_new wo (.cells #[.int .i64 r.num,.int .i64 r.count,.int .i64 r.index,.int .i64 r.low,.int .i64 r.clock,.int .i64 r.bytes,.slice g1 l1 k1,.slice g2 l2 k2] 48)
   clear hx3 hB1 hB2 hr hkx hx1 hx2 hl1 hl2
   go_upto_region 9 with fail
   obtain ⟨p5,hp5⟩:∃p,p=wo.heap.size:=⟨_,rfl⟩
   rw [←hp5] at hr5⊢
   have Jj:=hid hp5;have Kt:=hid hu5;have Ko:=hid hr5
   generalize wo.alloc (.cells #[.int .i64 r.num,.int .i64 r.count,.int .i64 r.index,.int .i64 r.low,.int .i64 r.clock,.int .i64 r.bytes,.slice g1 l1 k1,.slice g2 l2 k2] 48)=W5 at Kt Ko⊢
   have Zt:=hid (lt_of_heap Ko.out)
   clear hu5 hr5 hp5 t0 t1 t2 t3 t4 t5 t6 t7 z6 f6 hzl
   have hpt:=wide_any (b:=r.first) (by have h:=Jh.out.keep Kt.out;rw [Km.out] at h;exact h) Zs.out.2.2.2.2.2.2.1
   rw [←Km.out] at hpt
   have Kc:=hid hpt
   obtain ⟨⟨z0,z1,z2,z3,z4,z5,z6,z7⟩,f6,f7,hzl⟩:=metaCells Ko.out
   clear hpt z0 z1 z2 z3 z4 z5 z7
   go_wp2_with fail
   refine Kc.out.mono ?_
   rintro e W6 ⟨g6,c6,rfl,hn6,-⟩
   have Ku:=hid (hn6.upd.get Ko.out (fun e=>e));have Kv:=hid hn6
   have Zg:=hid (Kt.out.trans hn6.upd (fun _ _ e=>e))
   clear z6 f6 f7 hzl Kc hn6
   have hpt:=wide_any (b:=r.last) (by have h:=Ji.out.keep Zg.out;rw [Kn.out] at h;exact h) Zs.out.2.2.2.2.2.2.2
   rw [←Kn.out] at hpt
   have Kc:=hid hpt
   obtain ⟨⟨z0,z1,z2,z3,z4,z5,z6,z7⟩,f6,f7,hzl⟩:=metaCells Ku.out
   clear hpt z0 z1 z2 z3 z4 z5 z6
   go_wp2_with fail
   refine Kc.out.mono ?_
   rintro e W8 ⟨g8,c8,rfl,hn8,-⟩
   have Zh:=hid (hn8.upd.get Ku.out (fun e=>e));have Zu:=hid hn8
   have Jk:=hid (Zg.out.trans hn8.upd (fun _ _ e=>e))
   have Zi:=hid (show g6≠p5∧wo.heap.size≤g6∧g6<W6.heap.size from ⟨fun e=>by have h1:=Kv.out.new g6 rfl;have:=Zt.out;omega,Nat.le_trans Kt.out.size (Kv.out.new g6 rfl),Kv.out.data.lt g6 rfl⟩)
   have Zj:=hid (show g8≠p5∧wo.heap.size≤g8∧g6≠g8 from ⟨fun e=>by have h1:=hn8.new g8 rfl;have h2:=lt_of_heap Ku.out;omega,Nat.le_trans Zg.out.size (hn8.new g8 rfl),fun e=>by have h1:=hn8.new g8 rfl;have h2:=Zi.out.2.2;omega⟩)
   clear z7 f6 f7 hzl Kc hn8
   obtain ⟨⟨z0,z1,z2,z3,z4,z5,z6,z7⟩,f6,f7,hzl⟩:=metaCells Zh.out
   clear z0 z1 z2 z3 z4 z5
   go_upto_region 13 with fail
   have hu9:Upd (fun k=>k=p5) W8 ((W8.setCell ⟨p5,6,none⟩ (.slice (some ⟨g6,0,none⟩) l1 c6)).setCell ⟨p5,7,none⟩ (.slice (some ⟨g8,0,none⟩) l2 c8)):=((Upd.refl (fun k=>k=p5) W8).setCell (p:=⟨p5,6,none⟩) (fun _=>rfl) _).setCell (p:=⟨p5,7,none⟩) (fun _=>rfl) _
   have hr9:=heap_setCell_at _ p5 7 _ _ (.slice (some ⟨g8,0,none⟩) l2 c8) (heap_setCell_at W8 p5 6 _ _ (.slice (some ⟨g6,0,none⟩) l1 c6) Zh.out)
   have Zv:=hid (show ((W8.setCell ⟨p5,6,none⟩ (.slice (some ⟨g6,0,none⟩) l1 c6)).setCell ⟨p5,7,none⟩ (.slice (some ⟨g8,0,none⟩) l2 c8)).heap[p5]? = some (.cells #[.int .i64 r.num,.int .i64 r.count,.int .i64 r.index,.int .i64 r.low,.int .i64 r.clock,.int .i64 r.bytes,.slice (some ⟨g6,0,none⟩) l1 c6,.slice (some ⟨g8,0,none⟩) l2 c8] 48 (0,0)) from by simpa using hr9)
   have Zk:=hid (show Upd (fun _=>False) wo ((W8.setCell ⟨p5,6,none⟩ (.slice (some ⟨g6,0,none⟩) l1 c6)).setCell ⟨p5,7,none⟩ (.slice (some ⟨g8,0,none⟩) l2 c8)) from Jk.out.trans hu9 (fun k hk e=>by have:=Jj.out;omega))
   have Zl:=hid (show DataIs ((W8.setCell ⟨p5,6,none⟩ (.slice (some ⟨g6,0,none⟩) l1 c6)).setCell ⟨p5,7,none⟩ (.slice (some ⟨g8,0,none⟩) l2 c8)) (.slice (some ⟨g6,0,none⟩) (r.first.length+5) c6) (r.first++tailB) from by
    have h:=(Kv.out.data.upd Zu.out.upd (fun _ _ e=>e)).upd hu9 (fun k e e2=>by simp only [Value.ownBlock,Option.some.injEq] at e;have:=Zi.out.1;omega)
    rw [show r.first.length+5=l1+5 from by rw [Km.out]];exact h)
   have Zm:=hid (show DataIs ((W8.setCell ⟨p5,6,none⟩ (.slice (some ⟨g6,0,none⟩) l1 c6)).setCell ⟨p5,7,none⟩ (.slice (some ⟨g8,0,none⟩) l2 c8)) (.slice (some ⟨g8,0,none⟩) (r.last.length+5) c8) (r.last++tailB) from by
    have h:=Zu.out.data.upd hu9 (fun k e e2=>by simp only [Value.ownBlock,Option.some.injEq] at e;have:=Zj.out.1;omega)
    rw [show r.last.length+5=l2+5 from by rw [Kn.out]];exact h)
   generalize (W8.setCell ⟨p5,6,none⟩ (.slice (some ⟨g6,0,none⟩) l1 c6)).setCell ⟨p5,7,none⟩ (.slice (some ⟨g8,0,none⟩) l2 c8)=W9 at Zv Zk Zl Zm⊢
   clear hu9 hr9 z6 z7 f6 f7 hzl Zh Ku Ko
   have Kw:=hid (HC.out.keep Zk.out);have Jl:=hid (HW.out.keep Zk.out)
   obtain ⟨ao,cap,w10,hrun,hro,hu10⟩:=Kw.out.runs.push2 ⟨r,.slice (some ⟨g6,0,none⟩) r.first.length c6,.slice (some ⟨g8,0,none⟩) r.last.length c8⟩ (part_of Zl.out) (part_of Zm.out) Kw.out.upd.size (by have:=Ka.out;omega) rfl
   have hty10:∀k,(Value.slice ra LL rc).ownBlock=some k→∀cur fr,W9.heap[k]?≠some (.cells cur 5 fr)∧W9.heap[k]?≠some (.cells cur 22 fr):=by
    intro k hk cur fr
    obtain ⟨-,hh2⟩:=Kw.out.runs.row
    rcases hh2 with ⟨e,-⟩|⟨g,cap,cur',e,hb,hg',-⟩
    ·rw [e] at hk;cases hk
    ·rw [e] at hk
     simp only [Value.ownBlock,Option.some.injEq] at hk
     subst hk
     exact ⟨not_ty hg' (by decide) cur fr,not_ty hg' (by decide) cur fr⟩
   have hj:=Kw.out.join hro hu10 (fun k e=>by simp only [Value.ownBlock,Option.some.injEq] at e;subst e;exact HC.out.fresh Zi.out.2.1) (fun k e=>by simp only [Value.ownBlock,Option.some.injEq] at e;subst e;exact HC.out.fresh Zj.out.2.1) (fun k e e2=>by simp only [Value.ownBlock,Option.some.injEq] at e e2;exact Zj.out.2.2 (e.trans e2.symm))
   have Kf:=hid (Jl.out.keepT hu10 hty10)
   have Zw:=hid (Zl.out.keepT hu10 (fun k e cur fr=>(hty10 k e cur fr).1));have Zx:=hid (Zm.out.keepT hu10 (fun k e cur fr=>(hty10 k e cur fr).1))
   obtain ⟨ao2,cap2,w11,hrun2,hw11,hu11⟩:=Kf.out.push (y:=⟨g6,c6,r.first⟩) (z:=⟨g8,c8,r.last⟩) hj.upd.size Zw.out Zx.out (by have:=Ka.out;have:=Zq.out;have:=Zr.out;omega)
   have HJ:=hid (hj.keepW hu11 Kf.out.ty)
   rw [←Kh.out,←Km.out,←Kn.out] at hrun
   rw [←Zf.out] at hrun2 hw11
   rw [←Kh.out] at HJ
   have Kp:Hid ((Builtin.append_ #[23,23] 23 #[.slice ra LL rc,.slice (some ⟨W9.heap.size,0,none⟩) 1 1]).run Tryz.prog (W9.alloc (.cells #[.int .i64 r.num,.int .i64 r.count,.int .i64 r.index,.int .i64 r.low,.int .i64 r.clock,.int .i64 r.bytes,.slice (some ⟨g6,0,none⟩) l1 c6,.slice (some ⟨g8,0,none⟩) l2 c8] 48))=.ok (.slice ao (LL+1) cap) w10):=hid hrun
   have Zn:Hid ((Builtin.append_ #[43,43] 43 #[.slice wa LW wc,.slice (some ⟨w10.heap.size,0,none⟩) 2 2]).run Tryz.prog (w10.alloc (.cells #[.slice (some ⟨g6,0,none⟩) (l1+5) c6,.slice (some ⟨g8,0,none⟩) (l2+5) c8] 22))=.ok (.slice ao2 (LW+2) cap2) w11):=by rw [Km.out,Kn.out];exact hid hrun2
   have Zy:=hid hw11
   obtain ⟨⟨z0,z1,z2,z3,z4,z5,z6,z7⟩,f6,f7,hzl⟩:=metaCells Zv.out
   clear hrun hro hu10 hj hty10 hrun2 hw11 hu11
   go_upto_region 14 with (at_builtin;refine wpList_append_run rfl _ _ _ rfl rfl rfl Kp.out ?_)
   clear z0 z1 z2 z3 z4 z5 z6 z7 f6 f7 hzl
   go_wp2_with (at_builtin;refine wpList_append_run rfl _ _ _ rfl rfl rfl Zn.out ?_)
   go_roundw
   case rel=>exact ⟨k+1,by simp,by omega,ao,cap,L ++ [⟨r,.slice (some ⟨g6,0,none⟩) r.first.length c6,.slice (some ⟨g8,0,none⟩) r.last.length c8⟩],ao2,cap2,WL ++ [⟨g6,c6,r.first⟩,⟨g8,c8,r.last⟩],by rw [List.length_append,List.length_singleton,←Kh.out],by rw [List.length_append,←Zf.out];rfl,by rw [List.length_append,List.length_singleton,←Kh.out];exact HJ.out,by rw [List.length_append,←Zf.out];exact Zy.out,by rw [List.map_append,Ze.out,Jg.out];rfl,by rw [List.map_append,Ke.out];simp [keyBlocks,Value.ownBlock]⟩
   case measure=>simp [intOf];omega
  ·obtain rfl:k=nx:=by omega
   have Zz:=hid (show L.map MV.m=x.runs from by rw [Ze.out,Kj.out,List.take_length])
   obtain ⟨ao,cap,w10,hrun,hro,hu10⟩:=HC.out.runs.push2 markV (.inl ⟨rfl,rfl⟩) (.inl ⟨rfl,rfl⟩) HC.out.upd.size (by have:=Ka.out;omega) rfl
   obtain ⟨gr,rfl,hcap⟩:∃g,ao=some ⟨g,0,none⟩∧L.length+1≤cap:=by
    obtain ⟨-,hh2⟩:=hro.row
    rcases hh2 with ⟨e,h⟩|⟨g,c',cur',e,hb,hg',h2,-⟩
    ·simp at h
    ·injection e with e1 e2 e3
     exact ⟨g,e1,by rw [e3];simpa using h2⟩
   have hty10:∀k,(Value.slice ra LL rc).ownBlock=some k→∀cur fr,wo.heap[k]?≠some (.cells cur 5 fr)∧wo.heap[k]?≠some (.cells cur 22 fr):=by
    intro k hk cur fr
    obtain ⟨-,hh2⟩:=HC.out.runs.row
    rcases hh2 with ⟨e,-⟩|⟨g,cap,cur',e,hb,hg',-⟩
    ·rw [e] at hk;cases hk
    ·rw [e] at hk
     simp only [Value.ownBlock,Option.some.injEq] at hk
     subst hk
     exact ⟨not_ty hg' (by decide) cur fr,not_ty hg' (by decide) cur fr⟩
   have hown0:=HC.out.own
   have hj:=HC.out.join hro hu10 (fun k e=>by cases e) (fun k e=>by cases e) (fun k e=>by cases e)
   have Kf:=hid (HW.out.keepT hu10 hty10)
   rw [←Kh.out] at hrun hj hro
   have Kp:Hid ((Builtin.append_ #[23,23] 23 #[.slice ra LL rc,.slice (some ⟨wo.heap.size,0,none⟩) 1 1]).run Tryz.prog (wo.alloc (.cells #[.int .i64 (-77),.int .i64 0,.int .i64 0,.int .i64 0,.int .i64 0,.int .i64 0,.slice none 0 0,.slice none 0 0] 48))=.ok (.slice (some ⟨gr,0,none⟩) (LL+1) cap) w10):=hid hrun
   have HJ:=hid hj;have Ja:=hid hown0
   clear hrun hro hu10 hj hty10 hown0
   have hLk:LL=k:=Kh.out.trans Ka.out
   subst hLk
   have hc0:¬cap=0:=by omega
   have hci:(LL:Int)≤(cap:Int):=by have:=Ka.out;omega
   go_upto_region 17 with (at_builtin;refine wpList_append_run rfl _ _ _ rfl rfl rfl Kp.out ?_)
   clear z6 f6 hzl
   obtain ⟨⟨z0,z1,z2,z3,z4,z5,z6⟩,⟨f0,f1,f2,f3,f4,f5,f6⟩,hzl⟩:=verCells HJ.out.r1
   clear z0 z1 z2 z3 z4 z5 f0 f1 f2 f3 f4 f5
   have hq:Upd (fun k=>k=p1) w10 (w10.setCell ⟨p1,6,none⟩ (.slice (some ⟨gr,0,none⟩) LL cap)):=Upd.cell_only _ _ _ _
   have hq1:=heap_setCell_at w10 p1 6 _ _ (.slice (some ⟨gr,0,none⟩) LL cap) HJ.out.r1
   have hq2:=hq.get HJ.out.r2 (fun e=>HJ.out.ne e.symm)
   go_upto_region 18 with fail
   have HQ:=hid hq;have Jb:=hid (show (w10.setCell ⟨p1,6,none⟩ (.slice (some ⟨gr,0,none⟩) LL cap)).heap[p1]? = some (.cells (verC x.gen x.flushed x.next x.low x.clock (.slice (some ⟨g3,0,none⟩) m1 c3) (.slice (some ⟨gr,0,none⟩) LL cap)) 25 (0,0)) from by simpa [verC] using hq1);have Kx:=hid hq2
   have Kq:=hid (show ∀k,k=p1→∀t cur fr,t≠25→w10.heap[k]?≠some (.cells cur t fr) from by rintro k rfl t cur fr ht;exact not_ty HJ.out.r1 (fun e=>ht e.symm) cur fr)
   have Jc:=hid (HJ.out.st.keepT hq (fun k e cur fr=>Kq.out k e _ cur fr (by decide)))
   have Jd:=hid (HJ.out.runs.keepT hq (fun k e cur fr=>⟨Kq.out k e _ cur fr (by decide),Kq.out k e _ cur fr (by decide)⟩))
   have Je:=hid (Kf.out.keepT hq (fun k e cur fr=>⟨Kq.out k e _ cur fr (by decide),Kq.out k e _ cur fr (by decide)⟩))
   generalize w10.setCell ⟨p1,6,none⟩ (.slice (some ⟨gr,0,none⟩) LL cap)=Wa at HQ Jb Kx Jc Jd Je⊢
   clear hq hq1 hq2 z6 f6 hzl
   obtain ⟨⟨z0,z1,z2,z3,z4,z5,z6⟩,-,hzl⟩:=verCells Jb.out
   obtain ⟨⟨y0,y1,y2,y3,y4,y5,y6⟩,⟨f0,f1,f2,f3,f4,f5,f6⟩,hyl⟩:=verCells Kx.out
   have HO:=hid (verOut_at Kx.out x.gen x.flushed x.next x.low x.clock (.slice (some ⟨g3,0,none⟩) m1 c3) (.slice (some ⟨gr,0,none⟩) LL cap))
   have Ky:=hid (verOut_upd (S:=fun k=>k=p2) (Upd.refl _ Wa) (p:=p2) (fun _=>rfl) x.gen x.flushed x.next x.low x.clock (.slice (some ⟨g3,0,none⟩) m1 c3) (.slice (some ⟨gr,0,none⟩) LL cap))
   have Kd:=hid (show ∀k,k=p2→∀t cur fr,t≠25→Wa.heap[k]?≠some (.cells cur t fr) from by rintro k rfl t cur fr ht;exact not_ty Kx.out (fun e=>ht e.symm) cur fr)
   have hne2:p1≠p2:=HJ.out.ne
   go_wp2
   (try simp only [Exit.inBlock,Exit.then])
   refine bodyPost_ret (results_ver rfl _ _ p2 _ rfl rfl HO.out) rfl ?_
   refine ⟨_,_,.slice (some ⟨g3,0,none⟩) m1 c3,gr,cap,L,WL,rfl,⟨by rw [←Kj.out],Jc.out.keepT Ky.out (fun k e cur fr=>Kd.out k e _ cur fr (by decide)),?_,Zz.out,Je.out.keepT Ky.out (fun k e cur fr=>⟨Kd.out k e _ cur fr (by decide),Kd.out k e _ cur fr (by decide)⟩),by rw [Ke.out];rfl,Ja.out⟩,?_⟩
   ·rw [←Kj.out]
    exact Jd.out.keepT Ky.out (fun k e cur fr=>⟨Kd.out k e _ cur fr (by decide),Kd.out k e _ cur fr (by decide)⟩)
   ·exact (HJ.out.upd.trans HQ.out (fun k hk e=>by have:=HJ.out.n1;omega)).trans Ky.out (fun k hk e=>by have:=HJ.out.n2;omega)
theorem cells_len8:∀L:List MV,(L.flatMap MV.cells).length=L.length*8
 | []=>rfl
 | y :: L=>by rw [List.flatMap_cons,List.length_append,cells_len8 L,List.length_cons];simp only [MV.cells,List.length_cons,List.length_nil];omega
theorem LaidAt.at {w W:World} {v wv:Value} {x:VerA} {sv:Value} {gr cr:Nat} {L:List MV} {WL:List WB} (h:LaidAt w W v wv x sv gr cr L WL):VerAt W v x:=by
 have hl:L.length=x.runs.length:=by rw [←h.map,List.length_map]
 have hro:RunsOwn W w.heap.size (.slice (some ⟨gr,0,none⟩) L.length cr) L:=by
  refine ⟨?_,fun y hy=>h.runs.data y (List.mem_append_left _ hy)⟩
  obtain ⟨hl2,hr⟩:=h.runs.row
  refine ⟨cells_len8 L,?_⟩
  rcases hr with ⟨e,h0⟩|⟨g,cap,cur,e,hb,hg,h2,h3,h4,h5⟩
  ·cases e
  ·injection e with e1 e2 e3
   injection e1 with e1
   injection e1 with e1
   subst e1;subst e3
   refine .inr ⟨gr,cr,cur,rfl,hb,hg,by simp at h2;omega,h3,h4,?_⟩
   have h6:=congrArg (List.take (L.length*8)) h5
   rw [List.take_take,List.flatMap_append,Nat.min_eq_left (by rw [List.length_append,List.length_singleton];omega),List.take_left' (cells_len8 L)] at h6
   exact h6
 have h1:=verOf (a1:=x.gen) (a2:=x.flushed) (a3:=x.next) (a4:=x.low) (a5:=x.clock) h.st hro
 rw [h.map,hl] at h1
 rw [h.eq]
 exact h1
theorem row_at {W:World} {base g n c:Nat} {t:TypeId} {l:List Value} (h:W.ownsRow base t 1 (.slice (some ⟨g,0,none⟩) n c) n l) {k:Nat} (hk:k<l.length):W.cell? ⟨g,k,none⟩=some l[k]:=by
 obtain ⟨hl,hr⟩:=h
 rcases hr with ⟨e,-⟩|⟨g',cap,cur,e,hb,hg,h2,h3,h4,h5⟩
 ·cases e
 ·injection e with e1 e2 e3
  injection e1 with e1
  injection e1 with e1
  subst e1
  rw [cell_of_row W g k _ _ _ hg,←Array.getElem?_toList]
  have h6:(cur.toList.take (n*1))[k]? = l[k]?:=by rw [h5]
  rw [List.getElem?_take,if_pos (by omega)] at h6
  rw [h6,List.getElem?_eq_getElem hk]
def ArrIn (WL:List WB) (k:Nat):Prop:=∃y∈WL,y.g=k
theorem store8 {W:World} {g o:Nat} {cur:Array Value} (h:W.heap[g]? = some (.cells cur 48 (0,0))) (v0 v1 v2 v3 v4 v5 v6 v7:Value) :
  Upd (fun k=>k=g) W ((((((((W.setCell ⟨g,o,none⟩ v0).setCell ⟨g,o+1,none⟩ v1).setCell ⟨g,o+2,none⟩ v2).setCell ⟨g,o+3,none⟩ v3).setCell ⟨g,o+4,none⟩ v4).setCell ⟨g,o+5,none⟩ v5).setCell ⟨g,o+6,none⟩ v6).setCell ⟨g,o+7,none⟩ v7)∧
  ∃cur',((((((((W.setCell ⟨g,o,none⟩ v0).setCell ⟨g,o+1,none⟩ v1).setCell ⟨g,o+2,none⟩ v2).setCell ⟨g,o+3,none⟩ v3).setCell ⟨g,o+4,none⟩ v4).setCell ⟨g,o+5,none⟩ v5).setCell ⟨g,o+6,none⟩ v6).setCell ⟨g,o+7,none⟩ v7).heap[g]? = some (.cells cur' 48 (0,0))∧cur'.size=cur.size:=by
 have p:∀j:Nat,(⟨g,j,none⟩:Addr).block<W.heap.size→(⟨g,j,none⟩:Addr).block=g:=fun _ _=>rfl
 refine ⟨((((((((Upd.refl (fun k=>k=g) W).setCell (p _) v0).setCell (p _) v1).setCell (p _) v2).setCell (p _) v3).setCell (p _) v4).setCell (p _) v5).setCell (p _) v6).setCell (p _) v7,?_⟩
 have h1:=heap_setCell_at _ g o _ _ v0 h
 have h2:=heap_setCell_at _ g (o+1) _ _ v1 h1
 have h3:=heap_setCell_at _ g (o+2) _ _ v2 h2
 have h4:=heap_setCell_at _ g (o+3) _ _ v3 h3
 have h5:=heap_setCell_at _ g (o+4) _ _ v4 h4
 have h6:=heap_setCell_at _ g (o+5) _ _ v5 h5
 have h7:=heap_setCell_at _ g (o+6) _ _ v6 h6
 have h8:=heap_setCell_at _ g (o+7) _ _ v7 h7
 exact ⟨_,h8,by simp⟩
theorem kept_any {w W:World} {v wv wasV:Value} {x:VerA} {sv:Value} {gr cr:Nat} {L:List MV} {WL:List WB} (h:LaidAt w W v wv x sv gr cr L WL) (hwas:VerAt W wasV x) (hin:VerIn x) :
  Calls Tryz.prog 115 #[v,wv,wasV] W fun e W'=>e=.returned (.bool true)∧Upd (fun k=>k=gr∨ArrIn WL k) W W':=by
 have Zh:=hid h;have Kq:=hid h.at;have Kj:=hid hwas
 have hv:=h.eq
 obtain ⟨s1,d1,es,-⟩:=h.st.bat
 subst es
 obtain ⟨q1,e1,q2,e2,rfl,-,-⟩:=hwas
 subst hv
 obtain ⟨wa,wc,ew⟩:=h.arr.shape
 obtain ⟨m1,hm1⟩:∃m,m=x.state.length:=⟨_,rfl⟩
 obtain ⟨n,hn⟩:∃m,m=x.runs.length:=⟨_,rfl⟩
 rw [←hm1,←hn] at Kq Kj⊢
 have HN:=hid hn;have Kk:=hid hm1
 have hnb:n*96≤140737488351232:=by rw [hn];exact hin.2.2.2.2.2.2.1
 obtain ⟨LW,hLW⟩:∃l,l=WL.length:=⟨_,rfl⟩
 rw [←hLW] at ew
 have Kr:=hid hLW
 subst ew
 have hlt:∀k,(k=gr∨ArrIn WL k)→k<W.heap.size:=by
  rintro k (rfl|⟨y,hy,rfl⟩)
  ·exact h.runs.row.lt _ rfl |>.2
  ·exact (h.arr.data y hy).lt _ rfl
 have Kb:=hid hlt
 have hnw:∀k,(Value.slice wa LW wc).ownBlock=some k→¬(k=gr∨ArrIn WL k):=by
  intro k hk
  obtain ⟨cur,hc,-⟩:=h.arr.ty k hk
  rintro (rfl|⟨y,hy,rfl⟩)
  ·obtain ⟨-,hr⟩:=h.runs.row
   rcases hr with ⟨e,-⟩|⟨g,cap,cur2,e,hb,hg,-⟩
   ·cases e
   ·injection e with e1
    injection e1 with e1
    injection e1 with e1
    subst e1
    exact not_ty hc (by decide) _ _ hg
  ·rcases h.arr.data y hy with ⟨e,-⟩|⟨g,cap,cur2,e,hg,-⟩
   ·cases e
   ·unfold WB.full at e
    injection e with e1
    injection e1 with e1
    injection e1 with e1
    rw [e1] at hc
    exact not_ty hc (by decide) _ _ hg
 have Ks:=hid hnw
 have hgw:¬ArrIn WL gr:=by
  rintro ⟨y,hy,e⟩
  obtain ⟨-,hr⟩:=h.runs.row
  rcases hr with ⟨e,-⟩|⟨g,cap,cur2,e0,hb,hg,-⟩
  ·cases e
  ·injection e0 with e1
   injection e1 with e1
   injection e1 with e1
   subst e1
   rcases h.arr.data y hy with ⟨e,-⟩|⟨g,cap,cur2,e2,hg2,-⟩
   ·cases e
   ·unfold WB.full at e2
    injection e2 with e3
    injection e3 with e3
    injection e3 with e3
    rw [←e3,e] at hg2
    exact not_ty hg (by decide) _ _ hg2
 have Za:=hid hgw
 have hmark:W.cell? ⟨gr,n*8,none⟩=some (.int .i64 (-77))∧n+1≤cr∧cr≤9223372036854775807:=by
  have hl:L.length=n:=by rw [hn,←h.map,List.length_map]
  obtain ⟨hl2,hr⟩:=h.runs.row
  rcases hr with ⟨e,-⟩|⟨g,cap,cur,e,hb,hg,h2,h3,h4,h5⟩
  ·cases e
  ·injection e with e1 e2 e3
   injection e1 with e1
   injection e1 with e1
   subst e1;subst e3
   refine ⟨?_,by simp at h2;omega,by simpa [maxLen] using h3⟩
   rw [cell_of_row W gr _ _ _ _ hg,←Array.getElem?_toList]
   have h6:(cur.toList.take ((L ++ [markV]).length*8))[n*8]? = ((L ++ [markV]).flatMap MV.cells)[n*8]?:=by rw [h5]
   rw [List.getElem?_take,if_pos (by rw [List.length_append,List.length_singleton];omega)] at h6
   rw [h6,List.flatMap_append,List.getElem?_append_right (by rw [cells_len8];omega),cells_len8,hl,Nat.sub_self]
   rfl
 have hrg:∃cur,W.heap[gr]? = some (.cells cur 48 (0,0))∧cur.size=cr*8:=by
  obtain ⟨-,hr⟩:=h.runs.row
  rcases hr with ⟨e,-⟩|⟨g,cap,cur,e,hb,hg,h2,h3,h4,h5⟩
  ·cases e
  ·injection e with e1 e2 e3
   injection e1 with e1
   injection e1 with e1
   subst e1;subst e3
   exact ⟨cur,hg,h4⟩
 have Kg:=hid hmark;have Zb:=hid hrg
 have Kt:=hid (show (WL.map WB.g).Nodup from by rw [h.link];exact h.own.1)
 have Kc:=hid h.arr
 clear hlt hnw hgw hmark hrg h hm1 hn hLW hin
 have hu2:=((Upd.refl (fun _=>False) W).alloc (.cells #[.int .i64 x.gen,.int .i64 x.flushed,.int .i64 x.next,.int .i64 x.low,.int .i64 x.clock,.slice s1 m1 d1,.slice (some ⟨gr,0,none⟩) n cr] 25)).alloc (.cells #[.int .i64 x.gen,.int .i64 x.flushed,.int .i64 x.next,.int .i64 x.low,.int .i64 x.clock,.slice q1 m1 e1,.slice q2 n e2] 25)
 have hra:=heap_alloc_new W (.cells #[.int .i64 x.gen,.int .i64 x.flushed,.int .i64 x.next,.int .i64 x.low,.int .i64 x.clock,.slice s1 m1 d1,.slice (some ⟨gr,0,none⟩) n cr] 25)
 have hra2:((W.alloc (.cells #[.int .i64 x.gen,.int .i64 x.flushed,.int .i64 x.next,.int .i64 x.low,.int .i64 x.clock,.slice s1 m1 d1,.slice (some ⟨gr,0,none⟩) n cr] 25)).alloc (.cells #[.int .i64 x.gen,.int .i64 x.flushed,.int .i64 x.next,.int .i64 x.low,.int .i64 x.clock,.slice q1 m1 e1,.slice q2 n e2] 25)).heap[W.heap.size]? = some (.cells #[.int .i64 x.gen,.int .i64 x.flushed,.int .i64 x.next,.int .i64 x.low,.int .i64 x.clock,.slice s1 m1 d1,.slice (some ⟨gr,0,none⟩) n cr] 25 (0,0)):=by rw [heap_alloc_past _ _ _ (by simp)];exact hra
 have hrb:=heap_alloc_new (W.alloc (.cells #[.int .i64 x.gen,.int .i64 x.flushed,.int .i64 x.next,.int .i64 x.low,.int .i64 x.clock,.slice s1 m1 d1,.slice (some ⟨gr,0,none⟩) n cr] 25)) (.cells #[.int .i64 x.gen,.int .i64 x.flushed,.int .i64 x.next,.int .i64 x.low,.int .i64 x.clock,.slice q1 m1 e1,.slice q2 n e2] 25)
 rw [World.size_alloc] at hrb
 go_enter Tryz.func115,Tryz.ntmps115
 go_upto_region 1 with fail
 obtain ⟨p3,hp3⟩:∃p,p=W.heap.size:=⟨_,rfl⟩
 obtain ⟨p5,hp5⟩:∃p,p=W.heap.size+1:=⟨_,rfl⟩
 rw [←hp3] at hra2
 rw [←hp5] at hrb
 rw [←hp5,←hp3]
 have Kh:=hid hu2;have Kl:=hid hra2;have Km:=hid hrb
 have Ku:=hid (show W.heap.size≤p3 from by omega)
 generalize (W.alloc (.cells #[.int .i64 x.gen,.int .i64 x.flushed,.int .i64 x.next,.int .i64 x.low,.int .i64 x.clock,.slice s1 m1 d1,.slice (some ⟨gr,0,none⟩) n cr] 25)).alloc (.cells #[.int .i64 x.gen,.int .i64 x.flushed,.int .i64 x.next,.int .i64 x.low,.int .i64 x.clock,.slice q1 m1 e1,.slice q2 n e2] 25)=W2 at Kh Kl Km⊢
 clear hu2 hra hra2 hrb hp3 hp5
 obtain ⟨⟨z0,z1,z2,z3,z4,z5,z6⟩,-,hzl⟩:=verCells Kl.out
 obtain ⟨⟨y0,y1,y2,y3,y4,y5,y6⟩,-,hyl⟩:=verCells Km.out
 have Kn:=hid (sameVer_any (x:=x) (y:=x) (by have h:=Kq.out.keep Kh.out;rw [Kk.out,HN.out] at h;exact h) (by have h:=Kj.out.keep Kh.out;rw [Kk.out,HN.out] at h;exact h) (by have:=HN.out;omega))
 rw [show sameVerB x x=true from sameVerB_iff.2 rfl,←Kk.out,←HN.out] at Kn
 go_wp2_with fail
 refine Kn.out.mono ?_
 rintro e W3 ⟨rfl,hu3⟩
 have Kd:=hid (Kh.out.trans hu3 (fun _ _ e=>e))
 have Kv:=hid (hu3.get Kl.out (fun e=>e))
 clear hu3 z0 z1 z2 z3 z4 z5 z6 hzl y0 y1 y2 y3 y4 y5 y6 hyl Kn Km
 obtain ⟨⟨z0,z1,z2,z3,z4,z5,z6⟩,-,hzl⟩:=verCells Kv.out
 clear z0 z1 z2 z3 z4 z5
 have hmk:W3.cell? ⟨gr,n*8,none⟩=some (.int .i64 (-77)):=Kd.out.cell (Kb.out gr (.inl rfl)) Kg.out.1
 have hgl:gr<W3.heap.size:=Nat.lt_of_lt_of_le (Kb.out gr (.inl rfl)) Kd.out.size
 have hcr:(n:Int)+1≤(cr:Int):=by have:=Kg.out.2.1;omega
 have hcrm:(cr:Int)≤9223372036854775807:=by have:=Kg.out.2.2;omega
 have hc0:¬cr=0:=by omega
 go_upto_region 3 with fail
 clear hmk hgl hcr hcrm hc0 hzl z6
 go_wp2
 go_loopw [8,9,10,11] (fun okv iv kv jv wr=>okv=.bool true∧∃i:Nat,iv=.int .i64 i∧i≤LW∧Upd (fun k=>∃y∈WL.take i,y.g=k) W3 wr) (fun _ iv _ _ _=>LW-(intOf iv).toNat)
 case atStart=>exact ⟨rfl,0,rfl,by omega,Upd.refl _ _⟩
 case round=>
  obtain ⟨rfl,i,rfl,hi,hu⟩:=hrel
  have HU:=hid hu
  obtain ⟨wo,rfl⟩:∃wo,wo=wr:=⟨_,rfl⟩
  clear hu
  by_cases hlt:i<LW
  ·have hiw:i<WL.length:=by have:=Kr.out;omega
   obtain ⟨y,hy⟩:∃y,y=WL[i]:=⟨_,rfl⟩
   have hym:y∈WL:=by rw [hy];exact List.getElem_mem hiw
   obtain ⟨gw,rfl,hcell,hwc,hgwl,hwcm⟩:∃g,wa=some ⟨g,0,none⟩∧W.cell? ⟨g,i,none⟩=some y.full∧LW≤wc∧g<W.heap.size∧(wc:Int)≤9223372036854775807:=by
    have hrow:=Kc.out.row
    obtain ⟨-,hr⟩:=Kc.out.row
    rcases hr with ⟨e,h0⟩|⟨g,cap,cur,e,hb,hg,h2,h3,h4,h5⟩
    ·exfalso;omega
    ·injection e with e1 e2 e3
     subst e1
     refine ⟨g,rfl,?_,by rw [e3];have:=Kr.out;(try simp at h2);omega,lt_of_heap hg,by rw [e3];simp [maxLen] at h3;omega⟩
     rw [e2] at hrow
     have h:=row_at hrow (k:=i) (by rw [List.length_map];exact hiw)
     rw [List.getElem_map] at h
     rw [hy];exact h
   have hdat:DataIs W y.full (y.b++tailB):=Kc.out.data y hym
   have hgyl:=Kb.out y.g (.inr ⟨y,hym,rfl⟩)
   have hgne:gw≠y.g:=fun e=>Ks.out gw rfl (.inr ⟨y,hym,e.symm⟩)
   have hfr:¬ ∃z∈WL.take i,z.g=y.g:=by
    rintro ⟨z,hz,e⟩
    have h:=Kt.out
    rw [←List.take_append_drop i WL,List.drop_eq_getElem_cons hiw,List.map_append,List.map_cons] at h
    exact (List.pairwise_append.1 h).2.2 z.g (List.mem_map.2 ⟨z,hz,rfl⟩) y.g (by rw [hy];exact List.mem_cons_self) e
   have htk:∀z,z∈WL.take (i+1)↔(z∈WL.take i∨z=y):=by
    intro z
    rw [List.take_succ_eq_append_getElem hiw,List.mem_append,List.mem_singleton,hy]
   have Kw:=hid htk
   obtain ⟨gy,hgy⟩:∃g,g=y.g:=⟨_,rfl⟩
   obtain ⟨cy,hcy⟩:∃g,g=y.c:=⟨_,rfl⟩
   obtain ⟨bb,hbb⟩:∃g,g=y.b:=⟨_,rfl⟩
   obtain ⟨lb,hlb⟩:∃l,l=bb.length:=⟨_,rfl⟩
   unfold WB.full at hcell hdat
   rw [←hgy,←hcy,←hbb,←hlb] at hcell hdat
   rw [←hgy] at hgyl hgne hfr
   have Ki:=hid ((Kd.out.mono (fun _ _ e=>e.elim)).trans HU.out (fun _ _ e=>e))
   have hD:DataIs wo (.slice (some ⟨gy,0,none⟩) (lb+5) cy) (bb++tailB):=hdat.upd Ki.out (fun k e e2=>by simp only [Value.ownBlock,Option.some.injEq] at e;subst e;exact hfr e2)
   have hgwS:¬ ∃z∈WL.take i,z.g=gw:=by
    rintro ⟨z,hz,e⟩
    exact Ks.out gw rfl (.inr ⟨z,List.mem_of_mem_take hz,e⟩)
   have hcw:wo.cell? ⟨gw,i,none⟩=some (.slice (some ⟨gy,0,none⟩) (lb+5) cy):=by
    rw [World.cell?_of_block (Ki.out.block gw hgwl hgwS)];exact hcell
   obtain ⟨hcy5,hcym⟩:lb+5≤cy∧cy≤9223372036854775807:=by
    rcases hdat with ⟨e,-⟩|⟨g,c,cur,e,-,h1,-,h3,-⟩
    ·cases e
    ·injection e with e1 e2 e3
     subst e3
     refine ⟨by rw [hlb];simp at h1;omega,by simpa [maxLen] using h3⟩
   have hgwo:gw<wo.heap.size:=Nat.lt_of_lt_of_le hgwl Ki.out.size
   have hgyo:gy<wo.heap.size:=Nat.lt_of_lt_of_le hgyl Ki.out.size
   have Zc:=hid (show ∃cur,wo.heap[gy]? = some (.cells cur 5 (0,0))∧cy≤cur.size from by
    rcases hD with ⟨e,-⟩|⟨g,c,cur,e,hg,-,h2,-⟩
    ·cases e
    ·injection e with e1 e2 e3
     injection e1 with e1
     injection e1 with e1
     subst e1;subst e3
     exact ⟨cur,hg,h2⟩)
   have HD:=hid hD;have Zd:=hid hcw;have Zi:=hid hlb;have Kx:=hid hgne;have Ze:=hid hgy;have Zj:=hid hfr;have Ky:=hid hgyo;have Ke:=hid hgwo
   have hiwc:(i:Int)<(wc:Int):=by omega
   have hbat:BAt (wo.alloc (.cells #[.int .u8 201,.int .u8 202,.int .u8 203,.int .u8 204,.int .u8 205] 5)) (.slice (some ⟨gy,lb,none⟩) 5 (cy-lb)) tailB:=by
    have h:=hD.bat
    rw [show lb+5=(bb++tailB).length from by rw [hlb];simp] at h
    have h2:=h.sub (lo:=lb) (n:=5) (by rw [hlb];simp)
    rw [Nat.zero_add,hlb,List.drop_left,←hlb] at h2
    exact h2.keep ((Upd.refl (fun _=>False) wo).alloc _)
   have hr7:=heap_alloc_new wo (.cells #[.int .u8 201,.int .u8 202,.int .u8 203,.int .u8 204,.int .u8 205] 5)
   have htl:BAt (wo.alloc (.cells #[.int .u8 201,.int .u8 202,.int .u8 203,.int .u8 204,.int .u8 205] 5)) (.slice (some ⟨wo.heap.size,0,none⟩) 5 5) tailB:=DataIs.bat (.inr ⟨_,5,_,rfl,hr7,by simp,by simp,by unfold maxLen;omega,rfl⟩)
   have Ko:=hid (lawSame_any hbat htl)
   rw [decide_eq_true rfl] at Ko
   have Ka:=hid ((Upd.refl (fun _=>False) wo).alloc (.cells #[.int .u8 201,.int .u8 202,.int .u8 203,.int .u8 204,.int .u8 205] 5))
   have hcy5i:(lb:Int)+5≤(cy:Int):=by omega
   have hcymi:(cy:Int)≤9223372036854775807:=by omega
   have hc0:¬cy=0:=by omega
   clear hbat htl hr7 hD hfr hgne hgyl hgwl hgwS hdat hcell htk hgy hcy hbb hlb hym hy
   go_wp2_with fail
   refine Ko.out.mono ?_
   rintro e W7' ⟨rfl,hww⟩
   obtain rfl:=hww.symm
   generalize wo.alloc (.cells #[.int .u8 201,.int .u8 202,.int .u8 203,.int .u8 204,.int .u8 205] 5)=W7 at Ka⊢
   clear Ko
   go_wp2
   go_loopw [11] (fun jv ws=>∃j:Nat,jv=.int .i64 j∧j≤lb+5∧Upd (fun k=>k=gy) W7 ws∧∃cur,ws.heap[gy]? = some (.cells cur 5 (0,0))∧cy≤cur.size) (fun jv _=>lb+5-(intOf jv).toNat)
   case atStart=>
    obtain ⟨cur,h1,h2⟩:=Zc.out
    exact ⟨0,rfl,by omega,Upd.refl _ _,cur,Ka.out.get h1 (fun e=>e),h2⟩
   case round=>
    obtain ⟨j,rfl,hj,hu,cur,hcur,hcs2⟩:=hrel
    obtain ⟨ws,rfl⟩:∃ws,ws=wr:=⟨_,rfl⟩
    have HV:=hid hu
    clear hu
    have hcs:ws.cell? ⟨gw,i,none⟩=some (.slice (some ⟨gy,0,none⟩) (lb+5) cy):=by
     rw [World.cell?_of_block (HV.out.block gw (Nat.lt_of_lt_of_le Ke.out Ka.out.size) Kx.out)]
     exact Ka.out.cell Ke.out Zd.out
    have hgs:gy<ws.heap.size:=Nat.lt_of_lt_of_le Ky.out (Nat.le_trans Ka.out.size HV.out.size)
    have hgws:gw<ws.heap.size:=Nat.lt_of_lt_of_le Ke.out (Nat.le_trans Ka.out.size HV.out.size)
    by_cases hjl:j<lb+5
    ·have hcell:=cell_of_row ws gy j _ _ _ hcur
     rw [Array.getElem?_eq_getElem (by omega)] at hcell
     have hfz:=frozen_of_row ws gy j _ _ hcur
     have Kf:=hid hcur
     clear hcur
     have hjc:(j:Int)<(lb:Int)+5:=by omega
     have hjcy:(j:Int)<(cy:Int):=by omega
     go_wp2
     go_roundw
     case rel=>exact ⟨j+1,by simp,by omega,HV.out.trans (Upd.cell_only _ _ _ _) (fun k _ e=>e),_,heap_setCell_at _ gy j _ _ _ Kf.out,by simpa using hcs2⟩
     case measure=>simp [intOf];omega
    ·obtain rfl:j=lb+5:=by omega
     go_wp2
     go_roundw
     case rel=>exact ⟨rfl,i+1,by simp,by omega,((HU.out.mono (fun k _ ⟨z,hz,e⟩=>⟨z,(Kw.out z).2 (.inl hz),e⟩)).trans Ka.out (fun _ _ e=>e.elim)).trans HV.out (fun k _ e=>⟨y,(Kw.out y).2 (.inr rfl),by rw [e,Ze.out]⟩)⟩
     case measure=>simp [intOf];omega
  ·obtain rfl:i=LW:=by omega
   have Kp:=hid (show Upd (ArrIn WL) W3 wo from HU.out.mono (fun k _ ⟨z,hz,e⟩=>⟨z,List.mem_of_mem_take hz,e⟩))
   have Zf:=hid (Kp.out.get Kv.out (fun ⟨z,hz,e⟩=>by have:=Ku.out;have:=Kb.out z.g (.inr ⟨z,hz,rfl⟩);omega))
   have Kz:=hid (show ∃cur,wo.heap[gr]? = some (.cells cur 48 (0,0))∧cur.size=cr*8 from by
    obtain ⟨cur,h1,h2⟩:=Zb.out
    exact ⟨cur,Kp.out.get (Kd.out.get h1 (fun e=>e)) Za.out,h2⟩)
   have Zg:=hid (show p3≠gr from fun e=>by have:=Kb.out gr (.inl rfl);have:=Ku.out;omega)
   clear HU
   go_wp2
   go_loopw [12] (fun jv ws=>∃j:Nat,jv=.int .i64 j∧j≤n∧Upd (fun k=>k=gr) wo ws∧∃cur,ws.heap[gr]? = some (.cells cur 48 (0,0))∧cur.size=cr*8) (fun jv _=>n-(intOf jv).toNat)
   case atStart=>
    obtain ⟨cur,h1,h2⟩:=Kz.out
    exact ⟨0,rfl,by omega,Upd.refl _ _,cur,h1,h2⟩
   case round=>
    obtain ⟨j,rfl,hj,hu,cur,hcur,hcs2⟩:=hrel
    obtain ⟨ws,rfl⟩:∃ws,ws=wr:=⟨_,rfl⟩
    have HV:=hid hu
    clear hu
    have HR:=hid (HV.out.get Zf.out Zg.out)
    obtain ⟨⟨z0,z1,z2,z3,z4,z5,z6⟩,-,hzl⟩:=verCells HR.out
    clear z0 z1 z2 z3 z4 z5
    by_cases hjl:j<n
    ·have hmk:=Kg.out
     have hcell:∀d,d<8→∃u,ws.cell? ⟨gr,j*8+d,none⟩=some u:=by
      intro d hd
      have h:=cell_of_row ws gr (j*8+d) _ _ _ hcur
      rw [Array.getElem?_eq_getElem (by omega)] at h
      exact ⟨_,h⟩
     obtain ⟨u0,c0⟩:=hcell 0 (by omega)
     obtain ⟨u1,c1⟩:=hcell 1 (by omega)
     obtain ⟨u2,c2⟩:=hcell 2 (by omega)
     obtain ⟨u3,c3⟩:=hcell 3 (by omega)
     obtain ⟨u4,c4⟩:=hcell 4 (by omega)
     obtain ⟨u5,c5⟩:=hcell 5 (by omega)
     obtain ⟨u6,c6⟩:=hcell 6 (by omega)
     obtain ⟨u7,c7⟩:=hcell 7 (by omega)
     rw [Nat.add_zero] at c0
     have f0:=frozen_of_row ws gr (j*8) _ _ hcur
     have f1:=frozen_of_row ws gr (j*8+1) _ _ hcur
     have f2:=frozen_of_row ws gr (j*8+2) _ _ hcur
     have f3:=frozen_of_row ws gr (j*8+3) _ _ hcur
     have f4:=frozen_of_row ws gr (j*8+4) _ _ hcur
     have f5:=frozen_of_row ws gr (j*8+5) _ _ hcur
     have f6:=frozen_of_row ws gr (j*8+6) _ _ hcur
     have f7:=frozen_of_row ws gr (j*8+7) _ _ hcur
     have hgs:=lt_of_heap hcur
     have Kf:=hid hcur
     have hjn:(j:Int)<(n:Int):=by omega
     have hjc:(j:Int)<(cr:Int):=by omega
     clear hcur hcell
     go_wp2
     go_roundw
     case rel=>
      obtain ⟨k1,cur',k2,k3⟩:=store8 Kf.out (o:=j*8) (.int .i64 (-99)) (.int .i64 0) (.int .i64 0) (.int .i64 0) (.int .i64 0) (.int .i64 0) (.slice none 0 0) (.slice none 0 0)
      exact ⟨j+1,by simp,by omega,HV.out.trans k1 (fun k _ e=>e),cur',k2,by rw [k3];exact hcs2⟩
     case measure=>simp [intOf];omega
    ·obtain rfl:j=n:=by omega
     go_wp2
     go_ret
     refine ⟨rfl,?_⟩
     exact (((Kd.out.mono (fun _ _ e=>e.elim)).trans Kp.out (fun k _ e=>.inr e)).trans HV.out (fun k _ e=>.inl e))
theorem checkA_in (x:VerA):0≤checkA x∧checkA x≤101:=by
 unfold checkA;split<;>omega
theorem LaidAt.keep {w W W':World} {v wv:Value} {x:VerA} {sv:Value} {gr cr:Nat} {L:List MV} {WL:List WB} (h:LaidAt w W v wv x sv gr cr L WL) (hu:Upd (fun _=>False) W W'):LaidAt w W' v wv x sv gr cr L WL:=
 ⟨h.eq,h.st.upd hu (fun _ _ e=>e),h.runs.keepT hu (fun _ e=>e.elim),h.map,h.arr.keep hu,h.link,h.own⟩
theorem LaidAt.low {w W:World} {v wv:Value} {x:VerA} {sv:Value} {gr cr:Nat} {L:List MV} {WL:List WB} (h:LaidAt w W v wv x sv gr cr L WL) {k:Nat} (hk:k=gr∨ArrIn WL k):w.heap.size≤k∧k<W.heap.size:=by
 rcases hk with rfl|⟨y,hy,rfl⟩
 ·obtain ⟨-,hr⟩:=h.runs.row
  rcases hr with ⟨e,-⟩|⟨g,cap,cur,e,hb,hg,-⟩
  ·cases e
  ·injection e with e1
   injection e1 with e1
   injection e1 with e1
   subst e1
   exact ⟨hb,lt_of_heap hg⟩
 ·refine ⟨h.own.2 y.g ?_,(h.arr.data y hy).lt _ rfl⟩
  rw [←h.link]
  exact List.mem_map.2 ⟨y,hy,rfl⟩
end Go.Proofs.YtgaidmohdhaonaaGreatDoor
