/-
  OrdL's law 'take', its four checks in one.
  ManifestPlays' memory: the program's disk and the document's, the list of prefixes, the world's box. No walk stands here.
  (*World).swaps of ManifestPlays, walked: Swap by both.
-/
import Derived.Test.YtgaidmohdhaonaaGreatDoorYI
import Derived.Test.YtgaidmohdhaonaaGreatDoorSX
import Derived.Test.YtgaidmohdhaonaaGreatDoorSU
import Derived.Test.YtgaidmohdhaonaaGreatDoorZG
import Derived.Test.YtgaidmohdhaonaaGreatDoorTB
import Derived.Test.YtgaidmohdhaonaaGreatDoorYK
set_option linter.unusedVariables false
set_option linter.unusedSimpArgs false
set_option linter.unnecessarySimpa false
set_option linter.unusedSectionVars false
set_option maxRecDepth 100000
set_option maxHeartbeats 12800000
namespace Go.Proofs.YtgaidmohdhaonaaGreatDoor
open Go
section
variable {P:Program} {Q:Exit→Act→World→Prop} {md:Region.Mode} {S:World→Prop} {z:Nat}
theorem wpAnyL_takeB {l:List Oper} (i:Nat) (late:List Nat) {oi:Oper} {v:Value} {fuel:Nat} {listed:Array Bool} {a:Act} {w:World} (hi:l[i]? = some oi)
  (hb:(Region.noSelect l.toArray&&Region.free md l.toArray listed i&&(Region.ready md l.toArray listed).contains i&&lateB md l.toArray listed i late)=true) (hz:z∈late)
  (hQ:∀c a w,Q (.panic c) (a.put oi.dst v) w→Q (.panic c) a w) (hy:Region.wanted oi (yielded l.toArray a.tmps)=true∧∀w,S w→(execOp a.eval oi).run P w=.ok (.value v) w) (hS:S w)
  (h:wpAnyL P md l.toArray Q S z fuel (listed.setIfInBounds i true) (a.put oi.dst v) w):wpAnyL P md l.toArray Q S z (fuel+1) listed a w:=by
 simp only [Bool.and_eq_true] at hb
 obtain ⟨⟨⟨h1,h2⟩,h3⟩,h4⟩:=hb
 exact wpAnyL_take i late hi h1 h2 h3 h4 hz hQ (Or.inl hy) hS h
theorem tk (i:Nat) (late:List Nat) {l:List Oper} {oi:Oper} {v:Value} {fuel:Nat} {listed:Array Bool} {a:Act} {w:World}
  (hi:l[i]? = some oi:=by rfl)
  (hb:(Region.noSelect l.toArray&&Region.free md l.toArray listed i&&(Region.ready md l.toArray listed).contains i&&lateB md l.toArray listed i late)=true:=by kernel_rfl) (hz:z∈late:=by simp)
  (hw:Region.wanted oi (yielded l.toArray a.tmps)=true:=by rfl) (y:∀w,S w→(execOp a.eval oi).run P w=.ok (.value v) w) (hS:S w:=by assumption)
  (r:wpAnyL P md l.toArray Q S z fuel (listed.setIfInBounds i true) (a.put oi.dst v) w)
  (hQ:∀c a w,Q (.panic c) (a.put oi.dst v) w→Q (.panic c) a w:=by exact fun _ _ _ h=>h):wpAnyL P md l.toArray Q S z (fuel+1) listed a w:=
 wpAnyL_takeB i late hi hb hz hQ ⟨hw,y⟩ hS r
theorem sA {α:Type} (l:List α) (i:Nat) (a:α):l.toArray.setIfInBounds i a=(l.set i a).toArray:=List.setIfInBounds_toArray l i a
theorem sZ {α:Type} (x a:α) (l:List α):(x :: l).set 0 a=a :: l:=List.set_cons_zero
theorem sS {α:Type} (x a:α) (l:List α) (n:Nat):(x :: l).set (n+1) a=x :: l.set n a:=List.set_cons_succ
end
end Go.Proofs.YtgaidmohdhaonaaGreatDoor
namespace Go.Proofs.YtgaidmohdhaonaaGreatDoor
open Go Go.RowKit
theorem mem_keyBlocks {L:List MV} {y:MV} (hy:y∈L) {k:Nat} (h:y.f.ownBlock=some k∨y.l.ownBlock=some k):k∈keyBlocks L:=by
 unfold keyBlocks
 refine List.mem_flatMap.2 ⟨y,hy,?_⟩
 rcases h with h|h<;>simp [h]
theorem LaidAt.upd {S:Nat→Prop} {w W W':World} {v wv:Value} {x:VerA} {sv:Value} {gr cr:Nat} {L:List MV} {WL:List WB} (h:LaidAt w W v wv x sv gr cr L WL) (hu:Upd S W W') (hS:∀k,S k→k<w.heap.size):LaidAt w W' v wv x sv gr cr L WL:=by
 have h1:∀k,sv.ownBlock=some k→¬S k:=fun k e hs=>by
  have:=h.own.2 k (List.mem_append_left _ (by rw [e];simp))
  have:=hS k hs
  omega
 have h2:∀y∈L ++ [markV],∀k,y.f.ownBlock=some k∨y.l.ownBlock=some k→¬S k:=fun y hy k e hs=>by
  rcases List.mem_append.1 hy with hy|hy
  ·have:=h.own.2 k (List.mem_append_right _ (mem_keyBlocks hy e))
   have:=hS k hs
   omega
  ·obtain rfl:=List.mem_singleton.1 hy
   rcases e with e|e<;>cases e
 have h3:∀y∈WL,¬S y.g:=fun y hy hs=>by
  have h4:y.g∈WL.map WB.g:=List.mem_map.2 ⟨y,hy,rfl⟩
  rw [h.link] at h4
  have:=h.own.2 _ h4
  have:=hS _ hs
  omega
 refine ⟨h.eq,h.st.upd hu h1,⟨owns_upd h.runs.row hu (fun k e hs=>by have:=(h.runs.row.lt k e).1;have:=hS k hs;omega),fun y hy=>?_⟩,h.map,⟨fun y hy=>?_,owns_upd h.arr.row hu (fun k e hs=>by have:=(h.arr.row.lt k e).1;have:=hS k hs;omega)⟩,h.link,h.own⟩
 ·exact ⟨(h.runs.data y hy).1.upd hu (fun k e=>h2 y hy k (.inl e)),(h.runs.data y hy).2.upd hu (fun k e=>h2 y hy k (.inr e))⟩
 ·exact (h.arr.data y hy).upd hu (fun k e=>by simp only [WB.full,Value.ownBlock,Option.some.injEq] at e;subst e;exact h3 y hy)
abbrev worldO (sp rp:Nat) (pv:Value):Obj:=.cells #[.pointer (some ⟨sp,0,none⟩),.pointer (some ⟨rp,0,none⟩),pv] 114 (0,0)
structure MP (w W:World) (sp rp:Nat) (pv:Value) (P:List ByteArray) (s:DS) (r:RS) (a:DiskA) (R:List (Nat×Obj)):Prop where
 sin:s.In W
 spp:s.p=sp
 ra:RA W r a
 rpp:r.p=rp
 low:∀k∈s.blocks,w.heap.size≤k
 lowr:∀k,r.own k→w.heap.size≤k
 ap:∀k∈s.blocks,¬r.own k
 upd:Upd (fun _=>False) w W
 box:∀x∈R,W.heap[x.1]? = some x.2∧w.heap.size≤x.1∧x.1∉s.blocks∧¬r.own x.1∧¬pv.ownBlock=some x.1
 ps:Strs w W pv P
 pn:∀b,pv.ownBlock=some b→b∉s.blocks∧¬r.own b
section
variable {w W W':World} {sp rp:Nat} {pv:Value} {P:List ByteArray} {s s2:DS} {r r2:RS} {a a2:DiskA} {R R':List (Nat×Obj)} {S:Nat→Prop}
theorem MP.new (h:MP w W sp rp pv P s r a R) (hu:Upd S W W') (hS:∀k,S k→k∉s.blocks∧¬r.own k∧(∀x∈R',x.1≠k)∧¬pv.ownBlock=some k∧w.heap.size≤k) (hR:∀x∈R',x∈R):MP w W' sp rp pv P s r a R':=
 ⟨h.sin.upd hu (fun k hk hs=>(hS k hs).1 hk),h.spp,h.ra.upd hu (fun k hk hs=>(hS k hs).2.1 hk),h.rpp,h.low,h.lowr,h.ap,h.upd.trans hu (fun k hk hs=>by have:=(hS k hs).2.2.2.2;omega),fun x hx=>⟨hu.get (h.box x (hR x hx)).1 (fun hs=>(hS x.1 hs).2.2.1 x hx rfl),(h.box x (hR x hx)).2⟩,h.ps.upd hu (fun b e hs=>(hS b hs).2.2.2.1 e),h.pn⟩
theorem MP.sub (h:MP w W sp rp pv P s r a R) (hR:∀x∈R',x∈R):MP w W sp rp pv P s r a R':=h.new (Upd.refl (fun _=>False) W) (fun _ e=>e.elim) hR
theorem MP.quiet (h:MP w W sp rp pv P s r a R) (hu:Upd (fun _=>False) W W'):MP w W' sp rp pv P s r a R:=h.new hu (fun _ e=>e.elim) (fun _ hx=>hx)
theorem MP.fresh (h:MP w W sp rp pv P s r a R) {k:Nat} (hk:W.heap.size≤k):k∉s.blocks∧¬r.own k∧(∀x∈R,x.1≠k)∧¬pv.ownBlock=some k∧w.heap.size≤k:=
 ⟨fun e=>by have:=h.sin.lt k e;omega,fun e=>by have:=h.ra.ins.lt e;omega,fun x hx e=>by have:=lt_of_heap (h.box x hx).1;omega,fun e=>by have:=h.ps.lt k e;omega,by have:=h.upd.size;omega⟩
theorem MP.stepD (h:MP w W sp rp pv P s r a R) (hst:Step W W' s s2):MP w W' sp rp pv P s2 r a R:=by
 have hb:∀b,b<W.heap.size→b∉s.blocks→b∉s2.blocks:=fun b h1 h2 e=>(hst.foot b e).elim h2 (fun e=>by omega)
 refine ⟨hst.ins,hst.p.trans h.spp,h.ra.upd hst.upd (fun k hk hs=>h.ap k hs hk),h.rpp,fun k hk=>(hst.foot k hk).elim (h.low k) (fun e=>Nat.le_trans h.upd.size e),h.lowr,fun k hk hr=>?_,h.upd.trans hst.upd (fun k hk hs=>by have:=h.low k hs;omega),fun x hx=>?_,h.ps.upd hst.upd (fun b e=>(h.pn b e).1),fun b e=>⟨hb b (h.ps.lt b e) (h.pn b e).1,(h.pn b e).2⟩⟩
 ·rcases hst.foot k hk with e|e
  ·exact h.ap k e hr
  ·have:=h.ra.ins.lt hr;omega
 ·obtain ⟨b1,b2,b3,b4,b5⟩:=h.box x hx
  exact ⟨hst.upd.get b1 b3,b2,hb x.1 (lt_of_heap b1) b3,b4,b5⟩
theorem MP.stepR (h:MP w W sp rp pv P s r a R) (hg:RGo W W' r r2 a2):MP w W' sp rp pv P s r2 a2 R:=by
 have hst:=hg.st
 have hb:∀b,b<W.heap.size→¬r.own b→¬r2.own b:=fun b h1 h2 e=>(hst.foot b e).elim h2 (fun e=>by omega)
 refine ⟨h.sin.upd hst.upd (fun k hk hs=>h.ap k hk hs),h.spp,hg.ra,hst.p.trans h.rpp,h.low,fun k hk=>(hst.foot k hk).elim (h.lowr k) (fun e=>Nat.le_trans h.upd.size e),fun k hk=>hb k (h.sin.lt k hk) (h.ap k hk),h.upd.trans hst.upd (fun k hk hs=>by have:=h.lowr k hs;omega),fun x hx=>?_,h.ps.upd hst.upd (fun b e=>(h.pn b e).2),fun b e=>⟨(h.pn b e).1,hb b (h.ps.lt b e) (h.pn b e).2⟩⟩
 obtain ⟨b1,b2,b3,b4,b5⟩:=h.box x hx
 exact ⟨hst.upd.get b1 b4,b2,b3,hb x.1 (lt_of_heap b1) b4,b5⟩
theorem MP.add (h:MP w W sp rp pv P s r a R) (hu:Upd (fun _=>False) W W') {b:Nat} {o:Obj} (hb:W.heap.size≤b) (ho:W'.heap[b]? = some o):MP w W' sp rp pv P s r a ((b,o) :: R):=by
 have hq:=h.quiet hu
 refine ⟨hq.sin,hq.spp,hq.ra,hq.rpp,hq.low,hq.lowr,hq.ap,hq.upd,fun x hx=>?_,hq.ps,hq.pn⟩
 rcases List.mem_cons.1 hx with rfl|hx
 ·obtain ⟨f1,f2,-,f4,f5⟩:=h.fresh hb
  exact ⟨ho,f5,f1,f2,f4⟩
 ·exact hq.box x hx
theorem MP.push (h:MP w W sp rp pv P s r a R) (o:Obj):MP w (W.alloc o) sp rp pv P s r a ((W.heap.size,o) :: R):=h.add ((Upd.refl _ _).alloc o) (Nat.le_refl _) (heap_alloc_new W o)
theorem MP.set {b:Nat} {o o':Obj} (h:MP w W sp rp pv P s r a R) (hb:(b,o)∈R) (hu:Upd (fun k=>k=b) W W') (ho:W'.heap[b]? = some o') (hR:∀x∈R',x∈R∧x.1≠b):MP w W' sp rp pv P s r a ((b,o') :: R'):=by
 obtain ⟨b1,b2,b3,b4,b5⟩:=h.box _ hb
 simp only at b1 b2 b3 b4 b5
 have hq:MP w W' sp rp pv P s r a R':=h.new hu (fun k e=>by subst e;exact ⟨b3,b4,fun x hx=>(hR x hx).2,b5,b2⟩) (fun x hx=>(hR x hx).1)
 refine ⟨hq.sin,hq.spp,hq.ra,hq.rpp,hq.low,hq.lowr,hq.ap,hq.upd,fun x hx=>?_,hq.ps,hq.pn⟩
 rcases List.mem_cons.1 hx with rfl|hx
 ·exact ⟨ho,b2,b3,b4,b5⟩
 ·exact hq.box x hx
theorem MP.row (h:MP w W sp rp pv P s r a R) {b:Nat} {o:Obj} (hb:(b,o)∈R):W.heap[b]? = some o:=(h.box _ hb).1
theorem MP.lt (h:MP w W sp rp pv P s r a R) {b:Nat} {o:Obj} (hb:(b,o)∈R):b<W.heap.size:=lt_of_heap (h.box _ hb).1
theorem MP.zero (h:MP w W sp rp pv P s r a R) {k:Nat} (hk:k<w.heap.size):k∉s.blocks:=fun e=>by have:=h.low k e;omega
theorem MP.names (h:MP w W sp rp pv P s r a R):∀f∈s.abs.files,f.name.size≤64:=by
 intro f hf
 obtain ⟨x,hx,rfl⟩:=List.mem_map.1 hf
 have h2:=(h.sin.files x hx).name
 simp only [nameOk,Bool.and_eq_true,decide_eq_true_eq] at h2
 have h3:=h2.1.2
 simpa [FRec.abs] using h3
end
theorem rowC {W:World} {b:Nat} {O:Obj} {cs:Array Value} {t:TypeId} (h:W.heap[b]? = some O) (e:O=.cells cs t (0,0)) (j:Nat):W.cell? ⟨b,j,none⟩=cs[j]?:=by
 subst e
 exact cell_of_row _ _ j _ _ _ h
theorem worldCells {W:World} {pw sp rp:Nat} {pv:Value} (h:W.heap[pw]? = some (worldO sp rp pv)):W.cell? ⟨pw,0,none⟩=some (.pointer (some ⟨sp,0,none⟩))∧W.cell? ⟨pw,1,none⟩=some (.pointer (some ⟨rp,0,none⟩))∧W.cell? ⟨pw,2,none⟩=some pv:=
 ⟨cell_of_row _ _ 0 _ _ _ h,cell_of_row _ _ 1 _ _ _ h,cell_of_row _ _ 2 _ _ _ h⟩
theorem actA_in (a:DiskA) (co:Option Nat) (F:List FileA):0≤(actA a co F).1∧(actA a co F).1≤100:=by
 unfold actA
 repeat' split
 all_goals simp
theorem lookP_in (a:DiskA) (n:ByteArray) (t:Bool):0≤lookP a n t∧lookP a n t≤100:=by
 rcases (show lookP a n t=3∨lookP a n t=40∨lookP a n t=42∨lookP a n t=0 from lookRes_cases _ _ _ _) with h|h|h|h<;>rw [h]<;>decide
theorem deleteP_in (a:DiskA) (n:ByteArray):0≤(deleteP a n).1∧(deleteP a n).1≤100:=by
 unfold deleteP
 split
 ·exact lookP_in _ _ _
 ·exact actA_in _ _ _
theorem createP_in (a:DiskA) (n:ByteArray):0≤(createP a n).1∧(createP a n).1≤100:=by
 unfold createP
 split
 ·exact lookP_in _ _ _
 ·split
  ·simp
  ·split
   ·simp
   ·exact actA_in _ _ _
theorem syncP_in (a:DiskA) (n:ByteArray):0≤(syncP a n).1∧(syncP a n).1≤100:=by
 unfold syncP
 split
 ·exact lookP_in _ _ _
 ·exact actA_in _ _ _
theorem appendP_in (a:DiskA) (n:ByteArray) (b:List UInt8):0≤(appendP a n b).1∧(appendP a n b).1≤100:=by
 unfold appendP
 split
 ·exact lookP_in _ _ _
 ·split
  ·simp
  ·split
   ·simp
   ·split
    ·simp
    ·exact actA_in _ _ _
theorem renameP_in (a:DiskA) (n t:ByteArray):0≤(renameP a n t).1∧(renameP a n t).1≤100:=by
 unfold renameP
 split
 ·exact lookP_in _ _ _
 ·split
  ·simp
  ·split
   ·simp
   ·exact actA_in _ _ _
theorem strokeS_in {q:Int×DiskA} (h:0≤q.1∧q.1≤100) (tmp nm:ByteArray):0≤(strokeS q tmp nm).1∧(strokeS q tmp nm).1≤100:=by
 unfold strokeS
 split
 ·exact h
 ·exact renameP_in _ _ _
theorem strokeA_in {q:Int×DiskA} (h:0≤q.1∧q.1≤100) (tmp nm:ByteArray):0≤(strokeA q tmp nm).1∧(strokeA q tmp nm).1≤100:=by
 unfold strokeA
 split
 ·simp
 ·split
  ·exact h
  ·exact strokeS_in (syncP_in _ _) _ _
theorem strokeC_in {q:Int×DiskA} (h:0≤q.1∧q.1≤100) (tmp nm:ByteArray) (b:List UInt8):0≤(strokeC q tmp nm b).1∧(strokeC q tmp nm b).1≤100:=by
 unfold strokeC
 split
 ·exact h
 ·exact strokeA_in (appendP_in _ _ _) _ _
theorem strokeD_in {q:Int×DiskA} (h:0≤q.1∧q.1≤100) (tmp nm:ByteArray) (b:List UInt8):0≤(strokeD q tmp nm b).1∧(strokeD q tmp nm b).1≤100:=by
 unfold strokeD
 split
 ·exact h
 ·exact strokeC_in (createP_in _ _) _ _ _
theorem strokeP_in (a:DiskA) (pre:ByteArray) (b:List UInt8):0≤(strokeP a pre b).1∧(strokeP a pre b).1≤100:=by
 rw [stroke_d]
 refine strokeD_in ?_ _ _ _
 split
 ·exact deleteP_in _ _
 ·simp
theorem askedP_in (a:DiskA) (pre:ByteArray):0≤askedP a pre∧askedP a pre≤100:=by
 rw [askedP_cases]
 repeat' split
 all_goals simp
theorem loadP_in (a:DiskA) (pre:ByteArray):0≤(loadP a pre).1.2∧(loadP a pre).1.2≤100:=by
 unfold loadP
 split
 ·exact askedP_in _ _
 ·split
  ·simp
  ·split<;>simp
theorem swapP_in (a:DiskA) (pre:ByteArray) (x:VerA):0≤(swapP a pre x).1∧(swapP a pre x).1≤200:=by
 unfold swapP
 split
 ·have:=askedP_in a pre;exact ⟨this.1,by omega⟩
 ·split
  ·simp
  ·split
   ·have:=loadP_in a pre;exact ⟨this.1,by omega⟩
   ·split
    ·simp
    ·have:=strokeP_in (loadP a pre).2 pre (encodeB x);exact ⟨this.1,by omega⟩
theorem swaps_any {w W0:World} {sp rp pw:Nat} {pv:Value} {P:List ByteArray} {s:DS} {r:RS} {R:List (Nat×Obj)} {v:Value} {x:VerA} (hT:TabIn w) (hm:MP w W0 sp rp pv P s r s.abs R) (hw:(pw,worldO sp rp pv)∈R) (pre:ByteArray) (hp:pre.size≤140737488355328) (hv:VerAt W0 v x) (hin:VerIn x) :
  Calls Tryz.prog 113 #[.pointer (some ⟨pw,0,none⟩),.string pre,v] W0 fun e W'=>e=.returned (.bool true)∧∃s2 r2,MP w W' sp rp pv P s2 r2 s2.abs R:=by
 have HT:=hid hT;have HP:=hid hp;have Kp:=hid hin;have HV:=hid hv;have HM:=hid hm
 have Ku:=hid (show ∀r∈x.runs,r.first.length≤140737488351232∧r.last.length≤140737488351232 from fun r hr=>(hin.2.2.2.2.2.2.2 r hr).2.2.2.2.2.2)
 obtain ⟨s1,d1,s2,d2,rfl,-,-⟩:=hv
 obtain ⟨m1,hm1⟩:∃m,m=x.state.length:=⟨_,rfl⟩
 obtain ⟨m2,hm2⟩:∃m,m=x.runs.length:=⟨_,rfl⟩
 rw [←hm1,←hm2] at HV⊢
 have Kv:=hid hm1;have Kw:=hid hm2;have Kx:=hid hw
 have Kc:=hid (show (∀k∈s.blocks,k<W0.heap.size)∧∀k,r.own k→k<W0.heap.size from ⟨fun k hk=>hm.sin.lt k hk,fun k hk=>hm.ra.ins.lt hk⟩)
 have Zi:=hid hm.upd.size
 have Ky:=hid (show (∀b,pv.ownBlock=some b→b<W0.heap.size)∧∀y∈R,y.1<W0.heap.size from ⟨fun b hb=>hm.ps.lt b hb,fun y hy=>lt_of_heap (hm.box y hy).1⟩)
 clear hm1 hm2 hT hin hp hm hw
 go_enter Tryz.func113,Tryz.ntmps113
 go_upto_region 1 with fail
 obtain ⟨P5,hB⟩:∃O,O=Obj.cells #[.int .i64 x.gen,.int .i64 x.flushed,.int .i64 x.next,.int .i64 x.low,.int .i64 x.clock,.slice s1 m1 d1,.slice s2 m2 d2] 25 (0,0):=⟨_,rfl⟩
 obtain ⟨W1,hW⟩:∃W,W=W0.alloc P5:=⟨_,rfl⟩
 obtain ⟨p5,hp⟩:∃p,p=W0.heap.size:=⟨_,rfl⟩
 have hmb:=HM.out.push P5
 have hub:=(Upd.refl (fun _=>False) W0).alloc P5
 rw [←hW,←hp] at hmb
 rw [←hW] at hub
 rw [hB] at hW
 rw [←hW,←hp]
 have Kj:=hid hp;have Kz:=hid hB
 clear HM hp hB hW
 have HM:=hid hmb;have HU:=hid hub
 clear hmb hub
 have Kq:=hid (show (p5,P5)∈(p5,P5) :: R from List.mem_cons_self ..)
 have HA:=hid (HV.out.keep HU.out)
 have HW:=hid (List.mem_cons_of_mem (p5,P5) Kx.out)
 obtain ⟨⟨z0,z1,z2,z3,z4,z5,z6⟩,-,hzl⟩:=verCells ((HM.out.row Kq.out).trans (congrArg some Kz.out))
 have Kb:=hid HU.out.size
 have Za:=hid (show W0.heap.size<W1.heap.size from by have:=HM.out.lt Kq.out;have:=Kj.out;omega)
 have Zb:=hid (copied_any HA.out Kp.out)
 go_wp2_with fail
 refine Zb.out.mono ?_
 rintro e W2 ⟨v2,rfl,hown,hu2⟩
 have Kd:=hid hown
 have Kr:=hid hown.at
 obtain ⟨t1,e1,t2,e2,rfl,-,-⟩:=hown.at
 rw [←Kv.out,←Kw.out] at Kr Kd⊢
 have hmq:=HM.out.quiet hu2
 clear HM
 have HM:=hid hmq
 have Ke:=hid hu2.size
 have Zj:=hid (show w.heap.size≤W0.heap.size from Zi.out)
 clear hown hu2 z0 z1 z2 z3 z4 z5 z6 hzl Zb HA hmq HU
 go_upto_region 2 with fail
 obtain ⟨P7,hB⟩:∃O,O=Obj.cells #[.int .i64 x.gen,.int .i64 x.flushed,.int .i64 x.next,.int .i64 x.low,.int .i64 x.clock,.slice t1 m1 e1,.slice t2 m2 e2] 25 (0,0):=⟨_,rfl⟩
 obtain ⟨W3,hW⟩:∃W,W=W2.alloc P7:=⟨_,rfl⟩
 obtain ⟨p7,hp⟩:∃p,p=W2.heap.size:=⟨_,rfl⟩
 have hmb:=HM.out.push P7
 have hub:=(Upd.refl (fun _=>False) W2).alloc P7
 rw [←hW,←hp] at hmb
 rw [←hW] at hub
 rw [hB] at hW
 rw [←hW,←hp]
 have Kk:=hid hp;have Kf:=hid hB
 clear HM hp hB hW
 have HM:=hid hmb;have HU:=hid hub
 clear hmb hub
 have HQ:=hid (HU.out.mono (T:=fun k=>k<W1.heap.size) (fun _ _ e=>e.elim))
 have Zc:=hid (Kr.out.keep HU.out)
 have Kl:=hid (show W1.heap.size≤W3.heap.size∧W2.heap.size≤W3.heap.size∧W2.heap.size<W3.heap.size from ⟨Nat.le_trans Ke.out HU.out.size,HU.out.size,by have:=HM.out.lt (b:=p7) (List.mem_cons_self ..);have:=Kk.out;omega⟩)
 have Km:=hid (show W0.heap.size≤W3.heap.size from Nat.le_trans Kb.out (Nat.le_trans Ke.out HU.out.size))
 have Zd:=hid (laid_any Zc.out Kp.out)
 obtain ⟨⟨z0,z1,z2,z3,z4,z5,z6⟩,-,hzl⟩:=verCells ((HM.out.row (b:=p7) (List.mem_cons_self ..)).trans (congrArg some Kf.out))
 go_wp2_with fail
 refine Zd.out.mono ?_
 rintro e W4 ⟨v4,wv,sv,gr,cr,L,WL,rfl,hlaid,hu4⟩
 obtain ⟨q1,f1,esv,-⟩:=hlaid.st.bat
 subst esv
 have hv4:=hlaid.eq
 obtain ⟨wa,wc,ew⟩:=hlaid.arr.shape
 obtain ⟨LW,hLW⟩:∃l,l=WL.length:=⟨_,rfl⟩
 rw [←hLW] at ew
 subst ew
 subst hv4
 rw [←Kv.out,←Kw.out] at hlaid⊢
 have hmq:=HM.out.quiet hu4
 have hqq:=HQ.out.trans (hu4.mono (T:=fun k=>k<W1.heap.size) (fun _ _ e=>e.elim)) (fun _ _ e=>e)
 clear HM HQ
 have HM:=hid hmq;have HQ:=hid hqq
 have Ka:=hid hlaid
 have Kn:=hid (show ∀k,(k=gr∨ArrIn WL k)→W3.heap.size≤k∧k<W4.heap.size from fun k hk=>hlaid.low hk)
 clear hlaid hu4 hLW z0 z1 z2 z3 z4 z5 z6 hzl Zd hmq hqq HU Kr Zc
 go_upto_region 3 with fail
 obtain ⟨P8,hB⟩:∃O,O=Obj.cells #[.int .i64 x.gen,.int .i64 x.flushed,.int .i64 x.next,.int .i64 x.low,.int .i64 x.clock,.slice q1 m1 f1,.slice (some ⟨gr,0,none⟩) m2 cr] 25 (0,0):=⟨_,rfl⟩
 obtain ⟨W5,hW⟩:∃W,W=W4.alloc P8:=⟨_,rfl⟩
 obtain ⟨p8,hp⟩:∃p,p=W4.heap.size:=⟨_,rfl⟩
 have hmb:=HM.out.push P8
 have hub:=(Upd.refl (fun _=>False) W4).alloc P8
 rw [←hW,←hp] at hmb
 rw [←hW] at hub
 rw [hB] at hW
 rw [←hW,←hp]
 have Ze:=hid hp;have Ko:=hid hB
 clear HM hp hB hW
 have HM:=hid hmb;have HU:=hid hub
 clear hmb hub
 have hqq:=HQ.out.trans (HU.out.mono (T:=fun k=>k<W1.heap.size) (fun _ _ e=>e.elim)) (fun _ _ e=>e)
 have hla5:=Ka.out.keep HU.out
 clear HQ Ka Kq HW
 have HQ:=hid hqq;have Ka:=hid hla5
 have Zf:=hid HU.out.size
 have Kg:=hid (show (p8,P8)∈(p8,P8) :: (p7,P7) :: (p5,P5) :: R from List.mem_cons_self ..)
 have Kh:=hid (show (p7,P7)∈(p8,P8) :: (p7,P7) :: (p5,P5) :: R from by simp)
 have HW:=hid (List.mem_cons_of_mem (p8,P8) (List.mem_cons_of_mem (p7,P7) (List.mem_cons_of_mem (p5,P5) Kx.out)))
 have hmd:=HM.out.quiet ((Upd.refl (fun _=>False) W5).drew)
 have hld:=Ka.out.keep ((Upd.refl (fun _=>False) W5).drew)
 have hqd:=HQ.out.drew
 clear hqq hla5 HM Ka HQ HU
 have HM:=hid hmd;have Ka:=hid hld;have HQ:=hid hqd
 clear hmd hld hqd
 have Ki:=hid (swap_any (HT.out.keep HM.out.upd) HM.out.sin (HM.out.zero HT.out.1) pre HP.out Ka.out.at Ku.out)
 rw [HM.out.spp] at Ki
 obtain ⟨E,hE⟩:∃E,E=swapP s.abs pre x:=⟨_,rfl⟩
 have Zk:=hid (show 0≤E.1∧E.1≤200 from by rw [hE];exact swapP_in _ _ _)
 have Ks:=hid hE
 rw [←hE] at Ki
 clear hE
 have hHeld:(fun V=>V.cell? ⟨pw,0,none⟩=some (.pointer (some ⟨sp,0,none⟩))∧V.cell? ⟨pw,1,none⟩=some (.pointer (some ⟨rp,0,none⟩))∧V.heap[p7]? = some P7∧V.heap[p8]? = some P8) W5.drew:=⟨(worldCells (HM.out.row HW.out)).1,(worldCells (HM.out.row HW.out)).2.1,HM.out.row Kh.out,HM.out.row Kg.out⟩
 refine wp_region_l (fun V=>V.cell? ⟨pw,0,none⟩=some (.pointer (some ⟨sp,0,none⟩))∧V.cell? ⟨pw,1,none⟩=some (.pointer (some ⟨rp,0,none⟩))∧V.heap[p7]? = some P7∧V.heap[p8]? = some P8) 7 8 rfl (by kernel_rfl) ?_
 refine' tk 0 [7] (y:=?y3_0) (r:=?r3_0)
 case y3_0=>(intro wS hSw;go_simp;(try with_reducible rfl))
 refine' tk 1 [7] (y:=?y3_1) (r:=?r3_1)
 case y3_1=>(intro wS hSw;go_simp;(try with_reducible rfl))
 refine' tk 2 [7] (y:=?y3_2) (r:=?r3_2)
 case y3_2=>(intro wS hSw;go_simp;(try with_reducible rfl))
 refine' tk 3 [7] (y:=?y3_3) (r:=?r3_3)
 case y3_3=>(intro wS hSw;obtain ⟨g0,g1,-,-⟩:=hSw;go_simp;(try with_reducible rfl))
 refine' tk 4 [7] (y:=?y3_4) (r:=?r3_4)
 case y3_4=>(intro wS hSw;go_simp;(try with_reducible rfl))
 refine' tk 5 [7] (y:=?y3_5) (r:=?r3_5)
 case y3_5=>(intro wS hSw;obtain ⟨-,-,g7,g8⟩:=hSw;obtain ⟨⟨r0,r1,r2,r3,r4,r5,r6⟩,-,-⟩:=verCells ((g8).trans (congrArg some Ko.out));go_simp;(try with_reducible rfl))
 (try simp only [Act.put,sA,sZ,sS])
 refine wpAnyL_one 6 rfl (by kernel_rfl) (fun K hK=>?_)
 go_simp
 go_at_call 14
 refine Ki.out.mono ?_
 rintro e W6 ⟨rfl,sn,hst6,habs6⟩
 have hmq:=HM.out.stepD hst6
 have hlq:=Ka.out.upd hst6.upd (fun k hk=>by have h1:=Kc.out.1 k hk;have h2:=Km.out;omega)
 have hqq:=HQ.out.trans hst6.upd (fun k _ hk=>by have h1:=Kc.out.1 k hk;have h2:=Kb.out;omega)
 have Zl:=hid (show ∀k∈sn.blocks,k<W0.heap.size∨W5.heap.size≤k from fun k hk=>(hst6.foot k hk).imp (Kc.out.1 k) (fun e=>e))
 clear HM Ka HQ
 have HM:=hid hmq;have Ka:=hid hlq;have HQ:=hid hqq;have Zm:=hid habs6
 clear hmq hlq hqq hst6 habs6 Ki
 have hHeld6:(fun V=>V.cell? ⟨pw,0,none⟩=some (.pointer (some ⟨sp,0,none⟩))∧V.cell? ⟨pw,1,none⟩=some (.pointer (some ⟨rp,0,none⟩))∧V.heap[p7]? = some P7∧V.heap[p8]? = some P8) W6:=⟨(worldCells (HM.out.row HW.out)).1,(worldCells (HM.out.row HW.out)).2.1,HM.out.row Kh.out,HM.out.row Kg.out⟩
 refine hK.out _ _ (fun _=>hHeld6) ?_
 clear hK K
 (try simp only [Act.put,sA,sZ,sS])
 refine wpAnyL_one 7 rfl (by kernel_rfl) (fun K hK=>?_)
 go_simp
 refine hK.out _ _ (fun h=>absurd rfl h) ?_
 clear hK K
 (try simp only [Act.put,sA,sZ,sS])
 refine wpAnyL_done (by kernel_rfl) ?_ _
 have Zg:=hid (Kd.out.keep HQ.out (fun _ e=>e)).at
 have Zh:=hid (kept_any Ka.out Zg.out Kp.out)
 obtain ⟨⟨z0,z1,z2,z3,z4,z5,z6⟩,-,hzl⟩:=verCells ((HM.out.row Kh.out).trans (congrArg some Kf.out))
 obtain ⟨⟨y0,y1,y2,y3,y4,y5,y6⟩,-,hyl⟩:=verCells ((HM.out.row Kg.out).trans (congrArg some Ko.out))
 clear hHeld hHeld6
 go_wp2_with fail
 refine Zh.out.mono ?_
 rintro e W7 ⟨rfl,hu7⟩
 have hmq:=HM.out.new (R':=(p8,P8) :: (p7,P7) :: (p5,P5) :: R) hu7 (fun k hk=>by
  have hlo:=Kn.out k hk
  have h3:=Km.out;have h45:=Zf.out;have h5:=Kj.out;have h7:=Kk.out;have h8:=Ze.out;have h1:=Kb.out;have h2:=Ke.out;have h23:=Kl.out;have h01:=Za.out
  refine ⟨fun e=>(Zl.out k e).elim (fun e=>by omega) (fun e=>by omega),fun e=>by have:=Kc.out.2 k e;omega,fun y hy e=>?_,fun e=>by have:=Ky.out.1 k e;omega,by have:=HM.out.low;have:=Zj.out;omega⟩
  simp only [List.mem_cons] at hy
  rcases hy with rfl|rfl|rfl|hy
  ·simp only at e;omega
  ·simp only at e;omega
  ·simp only at e;omega
  ·have:=Ky.out.2 y hy;omega) (fun _ hy=>hy)
 have hqq:=HQ.out.trans hu7 (fun k hk e=>by have:=(Kn.out k e).1;have:=Kl.out;omega)
 clear HM HQ z0 z1 z2 z3 z4 z5 z6 hzl y0 y1 y2 y3 y4 y5 y6 hyl Zh hu7 Ka
 have hmd:=hmq.quiet ((Upd.refl (fun _=>False) W7).drew)
 have hqd:=hqq.drew
 clear hmq hqq
 have HM:=hid hmd;have HQ:=hid hqd
 clear hmd hqd
 have Kt:=hid (refSwap10_any HM.out.ra pre HP.out (v:=.agg #[.int .i64 x.gen,.int .i64 x.flushed,.int .i64 x.next,.int .i64 x.low,.int .i64 x.clock,.slice t1 m1 e1,.slice t2 m2 e2]) (x:=x) (fun W' hu=>by
  have h:=(Kd.out.keep (HQ.out.trans hu (fun k _ hk=>by have h1:=Kc.out.2 k hk;have h2:=Kb.out;omega)) (fun _ e=>e)).at
  exact h) Ku.out)
 rw [HM.out.rpp,←Ks.out] at Kt
 go_upto_region 5 with fail
 have hHeld:(fun V=>V.cell? ⟨pw,0,none⟩=some (.pointer (some ⟨sp,0,none⟩))∧V.cell? ⟨pw,1,none⟩=some (.pointer (some ⟨rp,0,none⟩))∧V.heap[p7]? = some P7∧V.heap[p8]? = some P8) W7.drew:=⟨(worldCells (HM.out.row HW.out)).1,(worldCells (HM.out.row HW.out)).2.1,HM.out.row Kh.out,HM.out.row Kg.out⟩
 refine wp_region_l (fun V=>V.cell? ⟨pw,0,none⟩=some (.pointer (some ⟨sp,0,none⟩))∧V.cell? ⟨pw,1,none⟩=some (.pointer (some ⟨rp,0,none⟩))∧V.heap[p7]? = some P7∧V.heap[p8]? = some P8) 13 14 rfl (by kernel_rfl) ?_
 refine' tk 0 [13] (y:=?y5_0) (r:=?r5_0)
 case y5_0=>(intro wS hSw;go_simp;(try with_reducible rfl))
 (try simp only [Act.put,sA,sZ,sS])
 refine' tk 1 [13] (y:=?y5_1) (r:=?r5_1)
 case y5_1=>(intro wS hSw;go_simp;(try with_reducible rfl))
 (try simp only [Act.put,sA,sZ,sS])
 refine' tk 2 [13] (y:=?y5_2) (r:=?r5_2)
 case y5_2=>(intro wS hSw;go_simp;(try with_reducible rfl))
 (try simp only [Act.put,sA,sZ,sS])
 refine' tk 4 [13] (y:=?y5_4) (r:=?r5_4)
 case y5_4=>(intro wS hSw;go_simp;(try with_reducible rfl))
 (try simp only [Act.put,sA,sZ,sS])
 refine' tk 5 [13] (y:=?y5_5) (r:=?r5_5)
 case y5_5=>(intro wS hSw;go_simp;(try with_reducible rfl))
 (try simp only [Act.put,sA,sZ,sS])
 refine' tk 6 [13] (y:=?y5_6) (r:=?r5_6)
 case y5_6=>(intro wS hSw;go_simp;(try with_reducible rfl))
 (try simp only [Act.put,sA,sZ,sS])
 refine' tk 7 [13] (y:=?y5_7) (r:=?r5_7)
 case y5_7=>(intro wS hSw;obtain ⟨g0,g1,-,-⟩:=hSw;go_simp;(try with_reducible rfl))
 (try simp only [Act.put,sA,sZ,sS])
 refine' tk 8 [13] (y:=?y5_8) (r:=?r5_8)
 case y5_8=>(intro wS hSw;go_simp;(try with_reducible rfl))
 (try simp only [Act.put,sA,sZ,sS])
 refine' tk 9 [13] (y:=?y5_9) (r:=?r5_9)
 case y5_9=>(intro wS hSw;obtain ⟨-,-,g7,g8⟩:=hSw;obtain ⟨⟨r0,r1,r2,r3,r4,r5,r6⟩,-,-⟩:=verCells ((g7).trans (congrArg some Kf.out));go_simp;(try with_reducible rfl))
 (try simp only [Act.put,sA,sZ,sS])
 refine wpAnyL_one 3 rfl (by kernel_rfl) (fun K hK=>?_)
 go_simp
 go_at_call 13
 refine (lawNum_any _ _ (by have:=Zk.out;omega)).mono ?_
 rintro e W ⟨rfl,hww⟩
 obtain rfl:=hww.symm
 refine hK.out _ _ (fun _=>hHeld) ?_
 clear hK K
 (try simp only [Act.put,sA,sZ,sS])
 refine wpAnyL_one 10 rfl (by kernel_rfl) (fun K hK=>?_)
 go_simp
 go_at_call 162
 refine Kt.out.mono ?_
 rintro e W8 ⟨rfl,r8,hg8⟩
 have hmq:=HM.out.stepR hg8
 clear HM
 have HM:=hid hmq
 clear hmq hg8 Kt
 have hHeld8:(fun V=>V.cell? ⟨pw,0,none⟩=some (.pointer (some ⟨sp,0,none⟩))∧V.cell? ⟨pw,1,none⟩=some (.pointer (some ⟨rp,0,none⟩))∧V.heap[p7]? = some P7∧V.heap[p8]? = some P8) W8:=⟨(worldCells (HM.out.row HW.out)).1,(worldCells (HM.out.row HW.out)).2.1,HM.out.row Kh.out,HM.out.row Kg.out⟩
 refine hK.out _ _ (fun _=>hHeld8) ?_
 clear hK K
 (try simp only [Act.put,sA,sZ,sS])
 refine' tk 11 [13] (y:=?y5_11) (r:=?r5_11)
 case y5_11=>(intro wS hSw;go_simp;(try with_reducible rfl))
 (try simp only [Act.put,sA,sZ,sS])
 refine' tk 12 [13] (y:=?y5_12) (r:=?r5_12)
 case y5_12=>(intro wS hSw;go_simp;(try with_reducible rfl))
 (try simp only [Act.put,sA,sZ,sS])
 refine wpAnyL_one 13 rfl (by kernel_rfl) (fun K hK=>?_)
 go_simp
 refine hK.out _ _ (fun h=>absurd rfl h) ?_
 clear hK K
 (try simp only [Act.put,sA,sZ,sS])
 refine wpAnyL_done (by kernel_rfl) ?_ _
 go_wp2
 go_ret
 refine ⟨by simp,sn,r8,?_⟩
 rw [Zm.out,Ks.out]
 have h:=HM.out.sub (R':=R) (fun y hy=>List.mem_cons_of_mem _ (List.mem_cons_of_mem _ (List.mem_cons_of_mem _ hy)))
 rw [Ks.out] at h
 exact h
end Go.Proofs.YtgaidmohdhaonaaGreatDoor
