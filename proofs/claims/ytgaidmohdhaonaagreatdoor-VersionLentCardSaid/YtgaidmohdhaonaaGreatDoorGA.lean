/-
  Words and laws on worlds that the texts of this seat share: what a step has turned, maps keyed by strings, slices. No program stands in it.
  Names in their order; the world behind the library's sort. No program stands here.
  Package disk's 'named': which texts are names.
-/
import Derived.WalkKit
import Derived.Deep.QuietTactic
import Derived.BigQuiet
import Derived.MapKept
import Derived.Sort.EncStr
import Derived.Sort.Grow
import Derived.Test.YtgaidmohdhaonaaGreatDoorProg
import Derived.Test.YtgaidmohdhaonaaGreatDoorShelf
import Derived.Handy
import Derived.Outline
import Derived.Deep.LoopGhost
import Derived.Defers
import Derived.RegionTactic
import Derived.ChangeAlike
set_option linter.unusedVariables false
set_option linter.unusedSimpArgs false
set_option linter.unnecessarySimpa false
set_option linter.unusedSectionVars false
set_option maxRecDepth 100000
set_option maxHeartbeats 1000000
namespace Go.Proofs.YtgaidmohdhaonaaGreatDoor
open Go Go.RowKit
structure Upd (S:Nat→Prop) (w w':World):Prop where
 os:w'.os=w.os
 tape:w'.tape=w.tape
 output:w'.output=w.output
 size:w.heap.size≤w'.heap.size
 block:∀k,k<w.heap.size→¬S k→w'.heap[k]? = w.heap[k]?
namespace Upd
variable {S T:Nat→Prop} {a w w':World}
theorem refl (S:Nat→Prop) (w:World):Upd S w w:=⟨rfl,rfl,rfl,Nat.le_refl _,fun _ _ _=>rfl⟩
theorem mono (h:Upd S w w') (hST:∀k,k<w.heap.size→S k→T k):Upd T w w':=
 ⟨h.os,h.tape,h.output,h.size,fun k hk hn=>h.block k hk (fun hs=>hn (hST k hk hs))⟩
theorem trans (h:Upd S a w) (h':Upd T w w') (hTS:∀k,k<a.heap.size→T k→S k):Upd S a w':=
 ⟨h'.os.trans h.os,h'.tape.trans h.tape,h'.output.trans h.output,Nat.le_trans h.size h'.size,
  fun k hk hn=>(h'.block k (Nat.lt_of_lt_of_le hk h.size) (fun ht=>hn (hTS k hk ht))).trans (h.block k hk hn)⟩
theorem drew (h:Upd S a w):Upd S a w.drew:=⟨h.os,h.tape,h.output,h.size,h.block⟩
theorem drewN (h:Upd S a w) (n:Nat):Upd S a (w.drewN n):=⟨h.os,h.tape,h.output,h.size,h.block⟩
theorem alloc (h:Upd S a w) (o:Obj):Upd S a (w.alloc o):=
 ⟨h.os,h.tape,h.output,Nat.le_trans h.size (by simp),fun k hk hn=>(Below.heap_alloc _ _ _ (Nat.lt_of_lt_of_le hk h.size)).trans (h.block k hk hn)⟩
theorem setCell (h:Upd S a w) {p:Addr} (hp:p.block<a.heap.size→S p.block) (u:Value):Upd S a (w.setCell p u):=
 ⟨h.os,h.tape,h.output,by simpa using h.size,fun k hk hn=>by
  by_cases e:k=p.block
  ·subst e;exact absurd (hp hk) hn
  ·exact (Below.heap_setCell _ _ _ _ e).trans (h.block k hk hn)⟩
theorem setBlock (h:Upd S a w) {b:Nat} (hb:b<a.heap.size→S b) (o:Obj):Upd S a { w with heap:=w.heap.setIfInBounds b o }:=
 ⟨h.os,h.tape,h.output,by simpa using h.size,fun k hk hn=>by
  by_cases e:k=b
  ·subst e;exact absurd (hb hk) hn
  ·show (w.heap.setIfInBounds b o)[k]? = _
   rw [Array.getElem?_setIfInBounds_ne (Ne.symm e)]
   exact h.block k hk hn⟩
theorem block_only (w:World) (b:Nat) (o:Obj):Upd (fun k=>k=b) w { w with heap:=w.heap.setIfInBounds b o }:=(Upd.refl (fun k=>k=b) w).setBlock (fun _=>rfl) o
theorem cell_only (w:World) (b i:Nat) (v:Value):Upd (fun k=>k=b) w (w.setCell ⟨b,i,none⟩ v):=(Upd.refl (fun k=>k=b) w).setCell (p:=⟨b,i,none⟩) (fun _=>rfl) v
theorem grown (h:Upd S a w) {row:Option Nat} (hg:w.grownBy w' row) (hr:∀k,row=some k→k<a.heap.size→S k):Upd S a w':=
 ⟨hg.os.trans h.os,hg.tape.trans h.tape,hg.output.trans h.output,Nat.le_trans h.size hg.size,
  fun k hk hn=>(hg.block k (Nat.lt_of_lt_of_le hk h.size) (fun e=>hn (hr k e.symm hk))).trans (h.block k hk hn)⟩
theorem of_below (h:Below w.heap.size w w'):Upd S w w':=⟨h.os,h.tape,h.output,h.size,fun k hk _=>h.block k hk⟩
theorem below {B:Nat} (h:Upd S w w') (hB:B≤w.heap.size) (hS:∀k,S k→B≤k):Below B w w':=
 ⟨h.os,h.tape,h.output,h.size,fun k hk=>h.block k (Nat.lt_of_lt_of_le hk hB) (fun hs=>absurd (hS k hs) (by omega))⟩
theorem get (h:Upd S w w') {k:Nat} {o:Obj} (hk:w.heap[k]? = some o) (hn:¬S k):w'.heap[k]? = some o:=
 (h.block k (Array.getElem?_eq_some_iff.1 hk).1 hn).trans hk
end Upd
theorem lt_of_heap {w:World} {k:Nat} {o:Obj} (h:w.heap[k]? = some o):k<w.heap.size:=(Array.getElem?_eq_some_iff.1 h).1
theorem owns_upd {S:Nat→Prop} {w w':World} {base:Nat} {e:TypeId} {sz n:Nat} {v:Value} {xs:List Value} (h:w.ownsRow base e sz v n xs) (hu:Upd S w w') (hn:∀k,v.ownBlock=some k→¬S k):w'.ownsRow base e sz v n xs:=by
 obtain ⟨hl,h⟩:=h
 refine ⟨hl,?_⟩
 rcases h with h|⟨g,cap,cur,rfl,hb,hg,r⟩
 ·exact .inl h
 ·exact .inr ⟨g,cap,cur,rfl,hb,hu.get hg (hn g rfl),r⟩
theorem heap_alloc_past (w:World) (o:Obj) (k:Nat) (h:k<w.heap.size):(w.alloc o).heap[k]? = w.heap[k]?:=Below.heap_alloc _ _ _ h
theorem heap_setCell_ne (w:World) (a:Addr) (v:Value) (k:Nat) (h:k≠a.block):(w.setCell a v).heap[k]? = w.heap[k]?:=Below.heap_setCell _ _ _ _ h
theorem heap_setCell_at (w:World) (b i:Nat) (cs:Array Value) (t:TypeId) (v:Value) (h:w.heap[b]? = some (.cells cs t (0,0))):(w.setCell ⟨b,i,none⟩ v).heap[b]? = some (.cells (cs.setIfInBounds i v) t (0,0)):=by
 simp [World.setCell,Array.getElem?_modify,h]
theorem cell_setCell_ne {w:World} {a b:Addr} (v:Value) (h:b.block≠a.block):(w.setCell a v).cell? b=w.cell? b:=World.cell?_of_block (heap_setCell_ne w a v b.block h)
def MapIs (w:World) (m:Nat) (E:List (ByteArray×Value)):Prop:=
 ∃es clock,w.heap[m]? = some (.map es clock)∧es.toList.map (fun e=>(e.key,e.val))=E.map (fun p=>(Value.string p.1,p.2))∧
  (es.toList.map (·.born)).Nodup∧∀e∈es.toList,e.born<clock
def look (E:List (ByteArray×Value)) (k:ByteArray):Option Value:=(E.find? (fun p=>p.1==k)).map (·.2)
def put:List (ByteArray×Value)→ByteArray→Value→List (ByteArray×Value)
 | [],k,v=>[(k,v)]
 | p :: E,k,v=>if p.1=k then (p.1,v) :: E else p :: put E k v
def del:List (ByteArray×Value)→ByteArray→List (ByteArray×Value)
 | [],_=>[]
 | p :: E,k=>if p.1=k then E else p :: del E k
theorem hid {p:Prop} (h:p):Hid p:=h
theorem beq_bytes (a b:ByteArray):(a==b)=decide (a=b):=by
 by_cases h:a=b
 ·subst h;simpa using (MapKept.bytes_beq a a).2 rfl
 ·have:¬((a==b)=true):=fun e=>h ((MapKept.bytes_beq a b).1 e)
  simp [h,this]
theorem look_nil (k:ByteArray):look [] k=none:=rfl
theorem look_cons (p:ByteArray×Value) (E:List (ByteArray×Value)) (k:ByteArray):look (p :: E) k=if p.1=k then some p.2 else look E k:=by
 unfold look
 rw [List.find?_cons]
 simp only [beq_bytes]
 by_cases h:p.1=k<;>simp [h]
def kv (e:MapEntry):Value×Value:=(e.key,e.val)
def sv (p:ByteArray×Value):Value×Value:=(Value.string p.1,p.2)
theorem findNow_look (k:ByteArray):∀(l:List MapEntry) (E:List (ByteArray×Value)) (i:Nat),l.map kv=E.map sv→
  (Instr.findNow .string (.string k) l i=some none∧look E k=none∧(∀v,put E k v=E ++ [(k,v)])∧del E k=E)∨
  ∃n e,Instr.findNow .string (.string k) l i=some (some (i+n,e.val))∧look E k=some e.val∧l[n]? = some e∧e.key=.string k∧
   (∀v,(l.modify n fun e=>{ e with key:=.string k,val:=v }).map kv=(put E k v).map sv)∧(l.eraseIdx n).map kv=(del E k).map sv
 | [],E,i,h=>by
  cases E with
  | nil=>exact .inl ⟨rfl,rfl,fun _=>rfl,rfl⟩
  | cons p E=>simp at h
 | e :: l,E,i,h=>by
  cases E with
  | nil=>simp at h
  | cons p E=>
   simp only [List.map_cons,List.cons.injEq,kv,sv,Prod.mk.injEq] at h
   obtain ⟨⟨hk,hv⟩,ht⟩:=h
   have hs:Instr.sameNow .string (.string k) e.key=some (decide (k=p.1)):=by rw [hk];simp [Instr.sameNow,beq_bytes]
   by_cases he:k=p.1
   ·refine .inr ⟨0,e,?_,?_,rfl,by rw [hk,he],?_,?_⟩
    ·simp only [Instr.findNow,hs];simp [he]
    ·rw [look_cons,if_pos he.symm,hv]
    ·intro v
     simp only [List.modify_zero_cons,put,if_pos he.symm,List.map_cons,kv,sv]
     rw [he];exact congrArg _ ht
    ·simp only [List.eraseIdx_zero,List.tail_cons,del,if_pos he.symm];exact ht
   ·have hne:¬p.1=k:=fun q=>he q.symm
    rcases findNow_look k l E (i+1) ht with ⟨h1,h2,h3,h4⟩|⟨n,e',h1,h2,h3,h4,h5,h6⟩
    ·refine .inl ⟨?_,?_,?_,?_⟩
     ·simp only [Instr.findNow,hs];simp [he,h1]
     ·rw [look_cons,if_neg hne,h2]
     ·intro v;simp [put,hne,h3]
     ·simp [del,hne,h4]
    ·refine .inr ⟨n+1,e',?_,?_,by simpa using h3,h4,?_,?_⟩
     ·simp only [Instr.findNow,hs];simp [he,h1];omega
     ·rw [look_cons,if_neg hne,h2]
     ·intro v
      simp only [List.modify_succ_cons,put,if_neg hne,List.map_cons,h5 v]
      rw [show kv e=sv p from by simp [kv,sv,hk,hv]]
     ·simp only [List.eraseIdx_cons_succ,del,if_neg hne,List.map_cons,h6]
      rw [show kv e=sv p from by simp [kv,sv,hk,hv]]
section
variable {P:Program} {w:World} {T K EL:TypeId} {m:Nat} {E:List (ByteArray×Value)}
theorem run_checkKey_str (hk:P.underlying K=some .string) (b:Bool) (k:ByteArray):(Instr.checkKey b 10000 K (.string k)).run P w=.ok () w:=by
 unfold Instr.checkKey
 simp only [Sem.run_bind,run_underlying hk,Result.andThen,Sem.run_pure]
theorem MapIs.lt (h:MapIs w m E):m<w.heap.size:=by
 obtain ⟨es,c,h1,_⟩:=h
 exact lt_of_heap h1
theorem MapIs.of_block {w':World} (h:MapIs w m E) (hb:w'.heap[m]? = w.heap[m]?):MapIs w' m E:=by
 obtain ⟨es,c,h1,h2,h3,h4⟩:=h
 exact ⟨es,c,hb.trans h1,h2,h3,h4⟩
theorem MapIs.upd {S:Nat→Prop} {w':World} (h:MapIs w m E) (hu:Upd S w w') (hn:¬S m):MapIs w' m E:=h.of_block (hu.block m h.lt hn)
theorem MapIs.made (w:World):MapIs (w.alloc (.map #[] 0)) w.heap.size []:=⟨#[],0,heap_alloc_new _ _,rfl,by simp,by simp⟩
theorem run_lookup_str (ht:P.underlying T=some (.map K EL)) (hk:P.underlying K=some .string) {z:Value} (hz:∀w,(zeroValue EL).run P w=.ok z w) (h:MapIs w m E) (k:ByteArray) :
  (Instr.lookup T (.map (some m)) (.string k) false).run P w=.ok ((look E k).getD z) w:=by
 obtain ⟨es,c,h1,h2,_,_⟩:=h
 rcases findNow_look k es.toList E 0 h2 with ⟨g1,g2,_,_⟩|⟨n,e,g1,g2,_,_,_,_⟩
 ·simp [Instr.lookup,run_underlying ht,MapKept.run_getObj_map h1,run_checkKey_str hk,MapKept.run_findKey hk g1,hz,g2,Result.andThen]
 ·simp [Instr.lookup,run_underlying ht,MapKept.run_getObj_map h1,run_checkKey_str hk,MapKept.run_findKey hk g1,g2,Result.andThen]
theorem run_len_map (ht:P.underlying T=some (.map K EL)) (h:MapIs w m E) (ty:TypeId) :
  (Builtin.len_ #[T] ty #[.map (some m)]).run P w=.ok (.int .i64 E.length) w:=by
 obtain ⟨es,c,h1,h2,_,_⟩:=h
 have hl:es.size=E.length:=by have:=congrArg List.length h2;simpa using this
 simp [Builtin.len_,run_underlying ht,MapKept.run_getObj_map h1,Result.andThen,goInt,hl]
theorem sameBits_str (k:ByteArray):Instr.sameBits 10000 (.string k) (.string k)=true:=by simp [Instr.sameBits,beq_bytes]
theorem map_born_modify (l:List MapEntry) (n:Nat) (k v:Value):(l.modify n fun e=>{ e with key:=k,val:=v }).map (·.born)=l.map (·.born):=by
 induction l generalizing n with
 | nil=>simp
 | cons e l ih=>cases n with
  | zero=>simp
  | succ n=>simp [ih]
theorem run_mapUpdate_str (ht:P.underlying T=some (.map K EL)) (hk:P.underlying K=some .string) (h:MapIs w m E) (k:ByteArray) (v:Value) :
  ∃w',(Instr.mapUpdate T (.map (some m)) (.string k) v).run P w=.ok () w'∧MapIs w' m (put E k v)∧Upd (fun b=>b=m) w w':=by
 obtain ⟨es,c,h1,h2,h3,h4⟩:=h
 have hlt:=lt_of_heap h1
 rcases findNow_look k es.toList E 0 h2 with ⟨g1,g2,g3,_⟩|⟨n,e,g1,g2,g3,g4,g5,_⟩
 ·refine ⟨{ w with heap:=w.heap.setIfInBounds m (.map (es.push { key:=.string k,val:=v,born:=c }) (c+1)) },?_,⟨_,_,(MapKept.heap_set h1).1,?_,?_,?_⟩,Upd.block_only _ _ _⟩
  ·simp [Instr.mapUpdate,run_underlying ht,MapKept.run_getObj_map h1,run_checkKey_str hk,MapKept.run_findKey hk g1,MapKept.run_setObj_map _ h1,Result.andThen]
  ·rw [g3 v];simp only [Array.toList_push,List.map_append,List.map_cons,List.map_nil];rw [h2]
  ·simp only [Array.toList_push,List.map_append,List.map_cons,List.map_nil]
   rw [List.nodup_append]
   refine ⟨h3,by simp,?_⟩
   intro a ha b hb
   simp only [List.mem_singleton] at hb
   subst hb
   obtain ⟨x,hx,rfl⟩:=List.mem_map.1 ha
   exact Nat.ne_of_lt (h4 x hx)
  ·intro x hx
   simp only [Array.toList_push,List.mem_append,List.mem_singleton] at hx
   rcases hx with hx|rfl
   ·exact Nat.lt_succ_of_lt (h4 x hx)
   ·exact Nat.lt_succ_self _
 ·have hkk:(((es[n]?).map (·.key)).getD (.string k))=.string k:=by
   have:es[n]? = some e:=by simpa using g3
   rw [this];simp [g4]
  have hst:(Instr.keyThatStays (.string k) (.string k)).run P w=.ok (.string k) w:=by simp [Instr.keyThatStays,sameBits_str]
  refine ⟨{ w with heap:=w.heap.setIfInBounds m (.map (es.modify n fun e=>{ e with key:=.string k,val:=v }) c) },?_,⟨_,_,(MapKept.heap_set h1).1,?_,?_,?_⟩,Upd.block_only _ _ _⟩
  ·have hkk':(Option.map (fun x=>x.key) es[0+n]?).getD (.string k)=.string k:=by rw [Nat.zero_add];exact hkk
   simp only [Nat.zero_add] at g1 hkk'
   simp [Instr.mapUpdate,run_underlying ht,MapKept.run_getObj_map h1,run_checkKey_str hk,MapKept.run_findKey hk g1,MapKept.run_setObj_map _ h1,Result.andThen,hkk',hst]
  ·rw [Array.toList_modify];exact g5 v
  ·rw [Array.toList_modify,map_born_modify];exact h3
  ·intro x hx
   have hb:x.born∈es.toList.map (·.born):=by
    rw [←map_born_modify es.toList n (.string k) v,←Array.toList_modify]
    exact List.mem_map.2 ⟨x,hx,rfl⟩
   obtain ⟨y,hy,e'⟩:=List.mem_map.1 hb
   rw [←e'];exact h4 y hy
theorem run_delete_str (ht:P.underlying T=some (.map K EL)) (hk:P.underlying K=some .string) (h:MapIs w m E) (k:ByteArray) (ty:TypeId) (X:TypeId) :
  ∃w',(Builtin.delete_ #[T,X] ty #[.map (some m),.string k]).run P w=.ok (.tuple #[]) w'∧MapIs w' m (del E k)∧Upd (fun b=>b=m) w w':=by
 obtain ⟨es,c,h1,h2,h3,h4⟩:=h
 have hlt:=lt_of_heap h1
 rcases findNow_look k es.toList E 0 h2 with ⟨g1,g2,_,g3⟩|⟨n,e,g1,g2,g3,g4,_,g6⟩
 ·refine ⟨{ w with heap:=w.heap.setIfInBounds m (.map es c) },?_,⟨_,_,(MapKept.heap_set h1).1,?_,h3,h4⟩,Upd.block_only _ _ _⟩
  ·simp [Builtin.delete_,run_underlying ht,MapKept.run_getObj_map h1,run_checkKey_str hk,MapKept.run_findKey hk g1,MapKept.run_setObj_map _ h1,Result.andThen]
  ·rw [g3];exact h2
 ·have hn:n<es.size:=by
   have:=(List.getElem?_eq_some_iff.1 g3).1
   simpa using this
  have hs:(es.eraseIdxIfInBounds n).toList.Sublist es.toList:=by
   unfold Array.eraseIdxIfInBounds
   rw [dif_pos hn,Array.toList_eraseIdx]
   exact List.eraseIdx_sublist _ _
  refine ⟨{ w with heap:=w.heap.setIfInBounds m (.map (es.eraseIdxIfInBounds n) c) },?_,⟨_,_,(MapKept.heap_set h1).1,?_,?_,?_⟩,Upd.block_only _ _ _⟩
  ·simp only [Nat.zero_add] at g1
   simp [Builtin.delete_,run_underlying ht,MapKept.run_getObj_map h1,run_checkKey_str hk,MapKept.run_findKey hk g1,MapKept.run_setObj_map _ h1,Result.andThen]
  ·unfold Array.eraseIdxIfInBounds
   rw [dif_pos hn,Array.toList_eraseIdx];exact g6
  ·exact (hs.map _).nodup h3
  ·exact fun x hx=>h4 x (hs.subset hx)
def IterIs (w:World) (r m:Nat) (E:List (ByteArray×Value)) (left:List (ByteArray×Value)):Prop:=
 ∃es clock since seen last,w.heap[m]? = some (.map es clock)∧w.heap[r]? = some (.mapIter (some m) since seen last)∧clock=since∧last=since∧es.toList.map kv=E.map sv∧
  (es.toList.map (·.born)).Nodup∧(∀e∈es.toList,e.born<clock)∧(es.toList.filter fun e=>!seen.contains e.born).map kv=left.map sv
theorem run_range_map (ht:P.underlying T=some (.map K EL)) (h:MapIs w m E) :
  ∃w',(Instr.range T (.map (some m))).run P w=.ok (.pointer (some ⟨w.heap.size,0,none⟩)) w'∧IterIs w' w.heap.size m E E∧Upd (fun _=>False) w w':=by
 obtain ⟨es,c,h1,h2,h3,h4⟩:=h
 refine ⟨w.alloc (.mapIter (some m) c #[] c),?_,⟨es,c,c,#[],c,?_,heap_alloc_new _ _,rfl,rfl,h2,h3,h4,?_⟩,(Upd.refl _ _).alloc _⟩
 ·simp [Instr.range,run_underlying ht,MapKept.run_getObj_map h1,Result.andThen,newObj,Sem.run]
 ·rw [heap_alloc_past _ _ _ (lt_of_heap h1)];exact h1
 ·have hf:(es.toList.filter fun e=>!(#[]:Array Nat).contains e.born)=es.toList:=by
   rw [List.filter_eq_self]
   intro e _
   simp
  rw [hf];exact h2
theorem run_getObj_iter {r:Nat} {x:Option Nat} {s l:Nat} {q:Array Nat} (hb:w.heap[r]? = some (.mapIter x s q l)):(getObj r).run P w=.ok (.mapIter x s q l) w:=by
 simp [getObj,Sem.run,hb]
theorem run_setObj_iter {r:Nat} {x:Option Nat} {s l:Nat} {q:Array Nat} (o:Obj) (hb:w.heap[r]? = some (.mapIter x s q l)):(setObj r o).run P w=.ok () { w with heap:=w.heap.setIfInBounds r o }:=by
 simp [setObj,Sem.run,hb]
theorem run_next_end {r:Nat} (h:IterIs w r m E []) (T':TypeId):(Instr.next (.pointer (some ⟨r,0,none⟩)) false T').run P w=.ok (.tuple #[.bool false]) w:=by
 obtain ⟨es,c,since,seen,last,h1,h2,h3,h4,h5,h6,h7,h8⟩:=h
 subst h3 h4
 have hnone:(es.toList.filter fun e=>!seen.contains e.born)=[]:=by simpa using h8
 have hemp:(es.filter fun e=>!seen.contains e.born)=#[]:=by
  apply Array.toList_inj.1
  rw [Array.toList_filter];exact hnone
 have hall:(!seen.isEmpty && !es.isEmpty&&es.all (fun e=>decide (e.born≥last)))=false:=by
  rcases hes:es.toList with _|⟨e,l⟩
  ·have:es=#[]:=Array.toList_inj.1 hes
   simp [this]
  ·have hm:e∈es.toList:=by rw [hes];exact .head _
   have:=h7 e hm
   have hf:es.all (fun e=>decide (e.born≥last))=false:=by
    rw [Array.all_eq_false]
    obtain ⟨i,hi,he⟩:=Array.mem_iff_getElem.1 (Array.mem_toList_iff.1 hm)
    exact ⟨i,hi,by rw [he];simp;omega⟩
   rw [hf];simp
 have hstop:∀ {α:Type} (x y:Sem α),(if (!seen.isEmpty && !es.isEmpty&&es.all (fun e=>decide (e.born≥last)))=true then x else y)=y:=by
  intro α x y;rw [hall];simp
 simp only [Instr.next,Sem.run_bind,run_getObj_iter h2,Result.andThen_ok,MapKept.run_getObj_map h1,hstop,hemp]
 simp [choose,Sem.run,Question.forced]
theorem kv_inj_sv {e:MapEntry} {p:ByteArray×Value} (h:kv e=sv p):e.key=.string p.1∧e.val=p.2:=by
 simpa [kv,sv] using h
theorem filter_push_born (seen:Array Nat):∀(l:List MapEntry) (n:Nat) (e:MapEntry),(l.map (·.born)).Nodup→l[n]? = some e→(l.filter fun x=>x.born != e.born)=l.eraseIdx n
 | [],n,e,_,h=>by simp at h
 | y :: l,0,e,hn,h=>by
  simp only [List.getElem?_cons_zero,Option.some.injEq] at h
  subst h
  simp only [List.map_cons,List.nodup_cons,List.mem_map,not_exists,not_and] at hn
  rw [List.filter_cons,if_neg (by simp),List.eraseIdx_zero,List.tail_cons,List.filter_eq_self]
  intro x hx
  have:=hn.1 x hx
  simpa using this
 | y :: l,n+1,e,hn,h=>by
  simp only [List.getElem?_cons_succ] at h
  simp only [List.map_cons,List.nodup_cons,List.mem_map,not_exists,not_and] at hn
  have hm:e∈l:=List.mem_of_getElem? h
  have hne:(y.born != e.born)=true:=by
   have:=hn.1 e hm
   simp only [bne_iff_ne,ne_eq]
   exact fun q=>this q.symm
  rw [List.filter_cons,if_pos hne,List.eraseIdx_cons_succ,filter_push_born seen l n e hn.2 h]
theorem run_next_some {r:Nat} {left:List (ByteArray×Value)} (h:IterIs w r m E left) (hl:left≠[]) (hrm:r≠m) :
  ∃pre x post w',left=pre++x :: post∧(∀T',(Instr.next (.pointer (some ⟨r,0,none⟩)) false T').run P w=.ok (.tuple #[.bool true,.string x.1,x.2]) w')∧
   (Instr.entry (.pointer (some ⟨r,0,none⟩))).run P w'=.ok (.tuple #[.string x.1,x.2]) w'∧IterIs w' r m E (pre++post)∧Upd (fun b=>b=r) w w':=by
 obtain ⟨es,c,since,seen,last,h1,h2,h3,h4,h5,h6,h7,h8⟩:=h
 subst h3 h4
 let L:=es.toList.filter fun e=>!seen.contains e.born
 have hLlen:L.length=left.length:=by have:=congrArg List.length h8;simpa [L] using this
 have hLpos:0<L.length:=by rw [hLlen];exact List.length_pos_iff.2 hl
 have hfil:(es.filter fun e=>!seen.contains e.born)=L.toArray:=by
  apply Array.toList_inj.1
  rw [Array.toList_filter]
 have hold:(L.toArray.filter fun e=>decide (e.born<last))=L.toArray:=by
  apply Array.toList_inj.1
  rw [Array.toList_filter,List.filter_eq_self]
  intro e he
  have:=h7 e (List.mem_filter.1 he).1
  simpa using this
 have hnew:(L.toArray.filter fun e=>decide (e.born≥last))=#[]:=by
  apply Array.toList_inj.1
  rw [Array.toList_filter]
  show List.filter _ L=[]
  rw [List.filter_eq_nil_iff]
  intro e he
  have:=h7 e (List.mem_filter.1 he).1
  simp;omega
 have hall:(!seen.isEmpty && !es.isEmpty&&es.all (fun e=>decide (e.born≥last)))=false:=by
  rcases hes:es.toList with _|⟨e,l⟩
  ·have:es=#[]:=Array.toList_inj.1 hes
   simp [this]
  ·have hm:e∈es.toList:=by rw [hes];exact .head _
   have:=h7 e hm
   have hf:es.all (fun e=>decide (e.born≥last))=false:=by
    rw [Array.all_eq_false]
    obtain ⟨i,hi,he⟩:=Array.mem_iff_getElem.1 (Array.mem_toList_iff.1 hm)
    exact ⟨i,hi,by rw [he];simp;omega⟩
   rw [hf];simp
 have hstop:∀ {α:Type} (x y:Sem α),(if (!seen.isEmpty && !es.isEmpty&&es.all (fun e=>decide (e.born≥last)))=true then x else y)=y:=by
  intro α x y;rw [hall];simp
 have hemp:L.toArray.isEmpty=false:=by
  cases hq:L with
  | nil=>rw [hq] at hLpos;simp at hLpos
  | cons=>rfl
 have hch:∃i w1,i<L.length∧(choose (.mapNext L.length)).run P w=.ok i w1∧w1.heap=w.heap∧w1.os=w.os∧w1.tape=w.tape∧w1.output=w.output:=by
  by_cases hf:L.length≤1
  ·exact ⟨0,w,hLpos,by simp [choose,Sem.run,Question.forced,hf],rfl,rfl,rfl,rfl⟩
  ·refine ⟨w.tape w.drawn (.mapNext L.length)%L.length,w.drew,Nat.mod_lt _ hLpos,?_,rfl,rfl,rfl,rfl⟩
   simp [choose,Sem.run,Question.forced,hf,Question.cut]
 obtain ⟨i,w1,hi,hrun,e1,e2,e3,e4⟩:=hch
 have hil:i<left.length:=by omega
 have hLi:L[i]? = some L[i]:=List.getElem?_eq_getElem hi
 have hkvi:kv L[i]=sv left[i]:=by
  have:=congrArg (fun l=>l[i]?) h8
  simp only [List.getElem?_map] at this
  rw [show (es.toList.filter fun e=>!seen.contains e.born)=L from rfl,hLi,List.getElem?_eq_getElem hil] at this
  simpa using this
 obtain ⟨hk,hv⟩:=kv_inj_sv hkvi
 refine ⟨left.take i,left[i],left.drop (i+1),{ w1 with heap:=w1.heap.setIfInBounds r (.mapIter (some m) last (seen.push L[i].born) last) },?_,?_,?_,?_,?_⟩
 ·rw [List.getElem_cons_drop,List.take_append_drop]
 ·intro T'
  have h2':w1.heap[r]? = some (.mapIter (some m) last seen last):=by rw [e1];exact h2
  have hcand:(L.toArray.map some)[i]? = some (some L[i]):=by simp [hi]
  simp only [Instr.next,Sem.run_bind,run_getObj_iter h2,Result.andThen_ok,MapKept.run_getObj_map h1,hstop,hfil,hold,hnew,hemp]
  simp only [Bool.false_eq_true,if_false,Array.append_empty,Array.empty_append,Array.size_map,List.size_toArray,hrun,Result.andThen_ok,hcand,Sem.run_bind,run_setObj_iter _ h2',Sem.run_pure,hk,hv]
 ·have g1:(w1.heap.setIfInBounds r (.mapIter (some m) last (seen.push L[i].born) last))[r]? = some (.mapIter (some m) last (seen.push L[i].born) last):=by rw [e1];exact (MapKept.heap_set h2).1
  have g2:(w1.heap.setIfInBounds r (.mapIter (some m) last (seen.push L[i].born) last))[m]? = some (.map es last):=by
   rw [Array.getElem?_setIfInBounds_ne hrm,e1];exact h1
  have hfind:es.find? (fun e=>e.born==L[i].born)=some L[i]:=by
   have hm:L[i]∈es.toList:=(List.mem_filter.1 (List.getElem_mem hi)).1
   rw [←Array.find?_toList]
   rw [List.find?_eq_some_iff_append]
   obtain ⟨pre,post,hpp⟩:=List.append_of_mem hm
   refine ⟨by simp,pre,post,hpp,?_⟩
   intro x hx
   rw [hpp,List.map_append,List.map_cons,List.nodup_append] at h6
   have:=h6.2.2 x.born (List.mem_map.2 ⟨x,hx,rfl⟩) L[i].born (List.mem_cons_self ..)
   simpa using this
  have r1:=run_getObj_iter (P:=P) (w:={ w1 with heap:=w1.heap.setIfInBounds r (.mapIter (some m) last (seen.push L[i].born) last) }) g1
  have r2:=MapKept.run_getObj_map (P:=P) (w:={ w1 with heap:=w1.heap.setIfInBounds r (.mapIter (some m) last (seen.push L[i].born) last) }) g2
  simp [Instr.entry,r1,r2,Result.andThen,hfind,hk,hv]
 ·refine ⟨es,last,last,seen.push L[i].born,last,?_,?_,rfl,rfl,h5,h6,h7,?_⟩
  ·show (w1.heap.setIfInBounds r _)[m]? = _
   rw [Array.getElem?_setIfInBounds_ne hrm,e1];exact h1
  ·show (w1.heap.setIfInBounds r _)[r]? = _
   rw [e1];exact (MapKept.heap_set h2).1
  ·have hff:(es.toList.filter fun e=>!(seen.push L[i].born).contains e.born)=L.filter fun x=>x.born != L[i].born:=by
    rw [List.filter_filter]
    apply List.filter_congr
    intro x _
    simp only [Array.contains_push]
    cases seen.contains x.born<;>simp [bne]
   have hnd:(L.map (·.born)).Nodup:=((List.filter_sublist).map _).nodup h6
   rw [hff,filter_push_born seen L i L[i] hnd hLi]
   have h8':L.map kv=left.map sv:=h8
   rw [List.eraseIdx_eq_take_drop_succ,List.map_append,List.map_append,List.map_take,List.map_drop,h8',List.map_take,List.map_drop]
 ·refine ⟨e2,e3,e4,?_,?_⟩
  ·show _≤(w1.heap.setIfInBounds r _).size
   rw [Array.size_setIfInBounds,e1];exact Nat.le_refl _
  ·intro k _ hn
   show (w1.heap.setIfInBounds r _)[k]? = _
   rw [Array.getElem?_setIfInBounds_ne (fun q=>hn q.symm),e1]
end
end Go.Proofs.YtgaidmohdhaonaaGreatDoor
namespace Go.Proofs.YtgaidmohdhaonaaGreatDoor
open Go Go.RowKit Go.Sort
def toBA (l:List UInt8):ByteArray:=⟨l.toArray⟩
theorem toBA_data (s:ByteArray):toBA s.data.toList=s:=by simp [toBA]
theorem toBA_toList (l:List UInt8):(toBA l).data.toList=l:=by simp [toBA]
def leB (x y:List UInt8):Bool:=decide (x≤y)
def sortNames (l:List ByteArray):List ByteArray:=((l.map (·.data.toList)).mergeSort leB).map toBA
theorem leB_trans (a b c:List UInt8):leB a b=true→leB b c=true→leB a c=true:=by
 simp only [leB,decide_eq_true_eq];exact List.le_trans
theorem leB_total (a b:List UInt8):(leB a b || leB b a)=true:=by
 simp only [leB,Bool.or_eq_true,decide_eq_true_eq];exact List.le_total a b
theorem mergeSort_congr {l l':List (List UInt8)} (h:l.Perm l'):l.mergeSort leB=l'.mergeSort leB:=by
 apply List.Perm.eq_of_pairwise (le:=fun a b=>leB a b=true)
 ·intro a b _ _ h1 h2
  simp only [leB,decide_eq_true_eq] at h1 h2
  exact List.le_antisymm h1 h2
 ·exact List.pairwise_mergeSort leB_trans leB_total l
 ·exact List.pairwise_mergeSort leB_trans leB_total l'
 ·exact (List.mergeSort_perm l leB).trans (h.trans (List.mergeSort_perm l' leB).symm)
theorem sortNames_congr {l l':List ByteArray} (h:l.Perm l'):sortNames l=sortNames l':=by
 unfold sortNames
 rw [mergeSort_congr (h.map _)]
theorem sortNames_perm (l:List ByteArray):(sortNames l).Perm l:=by
 unfold sortNames
 have:=(List.mergeSort_perm (l.map (·.data.toList)) leB).map toBA
 refine this.trans ?_
 rw [List.map_map]
 have:(toBA ∘ fun x:ByteArray=>x.data.toList)=id:=by funext x;exact toBA_data x
 rw [this,List.map_id]
theorem sortNames_sorted (l:List ByteArray):(sortNames l).Pairwise (fun a b=>leB a.data.toList b.data.toList=true):=by
 unfold sortNames
 rw [List.pairwise_map]
 refine (List.pairwise_mergeSort leB_trans leB_total (l.map (·.data.toList))).imp ?_
 intro a b h
 rw [toBA_toList,toBA_toList];exact h
theorem heap_grow {w:World} (os:Array Obj) {k:Nat} (h:k<w.heap.size):(grow w os).heap[k]? = w.heap[k]?:=by
 show (w.heap++os)[k]? = _
 rw [Array.getElem?_append_left h]
theorem upd_grow_put {α:Type} [Inhabited α] (enc:α→Value) (w:World) (q g off:Nat) (d:Array α) (os:Array Obj):Upd (fun k=>k=g) w (grow (putRow enc (Sort.ahead w q) g off d) os):=by
 refine ⟨rfl,rfl,rfl,?_,?_⟩
 ·show _≤((w.heap.modify g _)++os).size
  simp
 ·intro k hk hn
  rw [heap_grow os (by show k<(w.heap.modify g _).size;simpa using hk)]
  show (w.heap.modify g _)[k]? = _
  rw [Array.getElem?_modify,if_neg (fun e=>hn e.symm)]
theorem holds_owned {w:World} {base g n cap:Nat} {e:TypeId} {ss:List (List UInt8)} (h:w.ownsRow base e 1 (.slice (some ⟨g,0,none⟩) n cap) n (ss.map Go.Proofs.encStr)):Holds Go.Proofs.encStr w g 0 ss.toArray∧g<w.heap.size∧ss.length=n:=by
 obtain ⟨hl,h⟩:=h
 have hn:ss.length=n:=by simpa using hl
 rcases h with ⟨h1,_⟩|⟨g',cap',cur,hv,_,h1,h2,h3,h4,h5⟩
 ·cases h1
 ·simp only [Value.slice.injEq,Option.some.injEq,Addr.mk.injEq] at hv
  obtain ⟨⟨rfl,-,-⟩,-,rfl⟩:=hv
  refine ⟨fun j hj=>?_,lt_of_heap h1,hn⟩
  have hj':j<ss.length:=by simpa using hj
  rw [Nat.zero_add]
  refine ⟨?_,frozen_of_row w g j cur _ h1⟩
  rw [cell_of_row w g j cur _ _ h1]
  have:=congrArg (fun l=>l[j]?) h5
  simp only [List.getElem?_take,Nat.mul_one,hn.symm ▸ hj',if_true,List.getElem?_map,List.getElem?_eq_getElem hj',Option.map_some] at this
  rw [←Array.getElem?_toList,this]
  simp [hj']
theorem owns_sorted {w:World} {base g n cap q:Nat} {e:TypeId} {ss ys:List (List UInt8)} {os:Array Obj} (h:w.ownsRow base e 1 (.slice (some ⟨g,0,none⟩) n cap) n (ss.map Go.Proofs.encStr)) (hy:ys.length=n) :
  (grow (putRow Go.Proofs.encStr (Sort.ahead w q) g 0 ys.toArray) os).ownsRow base e 1 (.slice (some ⟨g,0,none⟩) n cap) n (ys.map Go.Proofs.encStr):=by
 obtain ⟨hl,h⟩:=h
 refine ⟨by simpa using hy,?_⟩
 rcases h with ⟨h1,_⟩|⟨g',cap',cur,hv,hb,h1,h2,h3,h4,h5⟩
 ·cases h1
 ·simp only [Value.slice.injEq,Option.some.injEq,Addr.mk.injEq] at hv
  obtain ⟨⟨rfl,-,-⟩,-,rfl⟩:=hv
  have hlt:=lt_of_heap h1
  refine .inr ⟨g,cap,putCells Go.Proofs.encStr 0 ys.toArray cur,rfl,hb,?_,h2,h3,?_,?_⟩
  ·rw [heap_grow os (by show g<(w.heap.modify g _).size;simpa using hlt)]
   show (w.heap.modify g _)[g]? = _
   rw [Array.getElem?_modify,if_pos rfl]
   have e1:(Sort.ahead w q).heap[g]? = w.heap[g]?:=rfl
   rw [h1]
   rfl
  ·simp [putCells,h4]
  ·apply List.ext_getElem?
   intro j
   simp only [List.getElem?_take,Nat.mul_one,List.getElem?_map,putCells]
   have hsz:cur.size=cap:=by simpa using h4
   by_cases hj:j<n
   ·have hjc:j<cur.size:=by omega
    have hjy:j<ys.length:=by omega
    rw [if_pos hj,List.getElem?_eq_getElem hjy]
    simp [hjc,hjy]
   ·rw [if_neg hj,List.getElem?_eq_none (by omega)];rfl
end Go.Proofs.YtgaidmohdhaonaaGreatDoor
namespace Go.Proofs.YtgaidmohdhaonaaGreatDoor
open Go Go.RowKit
def nameByte (c:UInt8):Bool:=(97≤c&&c≤122) || (65≤c&&c≤90) || (48≤c&&c≤57) || c==46 || c==45 || c==95 || c==47
def nameOk (s:List UInt8):Bool:=decide (1≤s.length∧s.length≤64)&&s.all nameByte
theorem nb_iff (c:UInt8):nameByte c=true↔((97≤(c.toNat:Int)∧(c.toNat:Int)≤122)∨(65≤(c.toNat:Int)∧(c.toNat:Int)≤90)∨(48≤(c.toNat:Int)∧(c.toNat:Int)≤57)∨0≤Lib.indexByte [46,45,95,47] c):=by
 have hi:0≤Lib.indexByte [46,45,95,47] c↔(c=46∨c=45∨c=95∨c=47):=by
  constructor
  ·intro h
   obtain ⟨n,hn⟩:=Int.eq_ofNat_of_zero_le h
   have h1:=(Lib.indexByte_some hn).1
   have hm:c∈[46,45,95,47]:=List.mem_of_getElem? h1
   simpa using hm
  ·rintro (rfl|rfl|rfl|rfl)<;>decide
 rw [hi]
 have e1:c=46↔c.toNat=46:=⟨fun h=>by rw [h];rfl,fun h=>UInt8.toNat_inj.1 (by rw [h];rfl)⟩
 have e2:c=45↔c.toNat=45:=⟨fun h=>by rw [h];rfl,fun h=>UInt8.toNat_inj.1 (by rw [h];rfl)⟩
 have e3:c=95↔c.toNat=95:=⟨fun h=>by rw [h];rfl,fun h=>UInt8.toNat_inj.1 (by rw [h];rfl)⟩
 have e4:c=47↔c.toNat=47:=⟨fun h=>by rw [h];rfl,fun h=>UInt8.toNat_inj.1 (by rw [h];rfl)⟩
 simp [nameByte,UInt8.le_iff_toNat_le,e1,e2,e3,e4]
 omega
theorem take_all_step (s:ByteArray) (k:Nat) (h:k<s.size):(s.data.toList.take (k+1)).all nameByte=((s.data.toList.take k).all nameByte&&nameByte s[k]):=by
 have hl:k<s.data.toList.length:=by simpa using h
 rw [List.take_succ_eq_append_getElem hl,List.all_append]
 simp [ByteArray.getElem_eq_getElem_data]
theorem no_name (s:ByteArray) (k:Nat) (h:k<s.size) (hf:nameByte s[k]=false):nameOk s.data.toList=false:=by
 have hl:k<s.data.toList.length:=by simpa using h
 have:s.data.toList.all nameByte=false:=by
  rw [List.all_eq_false]
  refine ⟨s.data.toList[k],List.getElem_mem hl,?_⟩
  rw [show s.data.toList[k]=s[k] from by simp [ByteArray.getElem_eq_getElem_data],hf];simp
 simp [nameOk,this]
theorem yes_name (s:ByteArray) (h1:1≤s.size) (h2:s.size≤64) (h:(s.data.toList.take s.size).all nameByte=true):nameOk s.data.toList=true:=by
 have hl:s.data.toList.length=s.size:=by simp
 rw [←hl,List.take_length] at h
 simp only [nameOk,h,hl,Bool.and_true,decide_eq_true_eq]
 exact ⟨h1,h2⟩
theorem named_any (s : ByteArray) (w : World) :
    Calls Tryz.prog 127 #[.string s] w fun e w'=>e=.returned (.bool (nameOk s.data.toList))∧w'=w:=by
  have hlen:s.data.toList.length=s.size:=by simp
  by_cases h0:s.size<1
  · have hr:nameOk s.data.toList=false:=by simp [nameOk,hlen];intro h;omega
    have HR:=hid hr;clear hr hlen
    go_enter Tryz.func127,Tryz.ntmps127
    go_wp2
    go_ret
    exact ⟨by rw [HR.out];rfl,rfl⟩
  by_cases h1:s.size > 64
  · have hr:nameOk s.data.toList=false:=by simp [nameOk,hlen];intro _ h;omega
    have HR:=hid hr;clear hr hlen
    have h1':(64:Int)<(s.size:Int):=by omega
    have h0':¬((s.size:Int)<1):=by omega
    go_enter Tryz.func127,Tryz.ntmps127
    go_wp2
    go_ret
    exact ⟨by rw [HR.out];rfl,rfl⟩
  have hb0:1≤s.size:=by omega
  have hb1:s.size≤64:=by omega
  clear h0 h1
  have HL:=hid hlen;clear hlen
  go_enter Tryz.func127,Tryz.ntmps127
  go_wp2
  go_loop [16] (fun i=>∃k:Nat,k≤s.size∧i=.int .i64 k∧(s.data.toList.take k).all nameByte=true) (fun i=>s.size-(intOf i).toNat)
  case atStart=>exact ⟨0,by omega,rfl,by simp⟩
  case round=>
    obtain ⟨k,hk,rfl,hall⟩:=hrel
    have HA:=hid hall;clear hall
    by_cases hlt:k<s.size
    · have hst:=take_all_step s k hlt
      have HS:=hid hst;clear hst
      go_wp2_with (go_at_call 168;refine (Tryz.strings_IndexByte _ _ _).mono ?_;rintro e w' ⟨rfl,rfl⟩)
      all_goals (try simp only [Bool.not_eq_true',Bool.not_eq_false',decide_eq_true_eq,decide_eq_false_iff_not] at *)
      all_goals first
        | (go_round
           case rel => exact ⟨k + 1, by omega, by go_num, by rw [HS.out, HA.out]; exact (nb_iff _).2 (by omega)⟩
           case measure => simp [intOf]; omega)
        | (go_ret
           have hf : nameByte s[k] = false := by rw [← Bool.not_eq_true]; exact fun h => by have := (nb_iff _).1 h; omega
           exact ⟨by rw [no_name s k hlt hf]; rfl, rfl⟩)
    · obtain rfl:k=s.size:=by omega
      go_wp2
      go_ret
      exact ⟨by rw [yes_name s hb0 hb1 HA.out];rfl,rfl⟩
def byteV (b:UInt8):Value:=.int .u8 (b.toNat:Int)
def DataIs (w:World) (v:Value) (bs:List UInt8):Prop:=
 (v=.slice none 0 0∧bs=[])∨
 ∃g cap cur,v=.slice (some ⟨g,0,none⟩) bs.length cap∧w.heap[g]? = some (.cells cur 5 (0,0))∧bs.length≤cap∧cap≤cur.size∧cap≤maxLen∧cur.toList.take bs.length=bs.map byteV
theorem DataIs.of_block {w w':World} {v:Value} {bs:List UInt8} (h:DataIs w v bs) (hb:∀k,v.ownBlock=some k→w'.heap[k]? = w.heap[k]?):DataIs w' v bs:=by
 rcases h with h|⟨g,cap,cur,rfl,h1,h2⟩
 ·exact .inl h
 ·exact .inr ⟨g,cap,cur,rfl,(hb g rfl).trans h1,h2⟩
theorem DataIs.lt {w:World} {v:Value} {bs:List UInt8} (h:DataIs w v bs):∀k,v.ownBlock=some k→k<w.heap.size:=by
 rcases h with ⟨rfl,_⟩|⟨g,cap,cur,rfl,h1,_⟩
 ·simp [Value.ownBlock]
 ·intro k hk
  simp only [Value.ownBlock,Option.some.injEq] at hk
  subst hk
  exact lt_of_heap h1
structure Cnt where
 acts:Int
 appends:Int
 syncs:Int
 renames:Int
 deletes:Int
 reads:Int
structure FRec where
 name:ByteArray
 blk:Nat
 dv:Value
 data:List UInt8
 synced:Nat
structure DS where
 p:Nat
 m:Nat
 cap:Nat
 recs:List FRec
 down:Bool
 armed:Int
 cnt:Cnt
def usedOf (l:List FRec):Nat:=(l.map (·.data.length)).sum
def DS.used (s:DS):Nat:=usedOf s.recs
def DS.cells (s:DS):Array Value:=#[.int .i64 s.cap,.int .i64 s.used,.map (some s.m),.bool s.down,.int .i64 s.armed,
 .int .i64 s.cnt.acts,.int .i64 s.cnt.appends,.int .i64 s.cnt.syncs,.int .i64 s.cnt.renames,.int .i64 s.cnt.deletes,.int .i64 s.cnt.reads]
def FRec.entry (r:FRec):ByteArray×Value:=(r.name,.pointer (some ⟨r.blk,0,none⟩))
def FRec.cells (r:FRec):Array Value:=#[r.dv,.int .i64 r.synced]
def FRec.blocks (r:FRec):List Nat:=r.blk :: r.dv.ownBlock.toList
def DS.entries (s:DS):List (ByteArray×Value):=s.recs.map FRec.entry
def recBlocks (l:List FRec):List Nat:=l.flatMap FRec.blocks
def DS.blocks (s:DS):List Nat:=s.p :: s.m :: recBlocks s.recs
structure FRec.In (w:World) (r:FRec):Prop where
 cells:w.heap[r.blk]? = some (.cells r.cells 155 (0,0))
 data:DataIs w r.dv r.data
 synced:r.synced≤r.data.length
 name:nameOk r.name.data.toList=true
structure DS.In (w:World) (s:DS):Prop where
 top:w.heap[s.p]? = some (.cells s.cells 122 (0,0))
 map:MapIs w s.m s.entries
 files:∀r∈s.recs,r.In w
 names:(s.recs.map (·.name)).Nodup
 blocks:s.blocks.Nodup
 count:s.recs.length≤256
 room:s.used≤s.cap
 cap:s.cap≤67108864
 armed:0≤s.armed∧s.armed≤9223372036854775807
 wfc:True
theorem FRec.In.lt {w:World} {r:FRec} (h:r.In w):∀k∈r.blocks,k<w.heap.size:=by
 intro k hk
 simp only [FRec.blocks,List.mem_cons,Option.mem_toList] at hk
 rcases hk with rfl|hk
 ·exact lt_of_heap h.cells
 ·exact h.data.lt k hk
theorem mem_recBlocks {l:List FRec} {k:Nat} : k∈recBlocks l↔∃r∈l,k∈r.blocks:=by simp [recBlocks]
theorem DS.In.lt {w:World} {s:DS} (h:s.In w):∀k∈s.blocks,k<w.heap.size:=by
 intro k hk
 simp only [DS.blocks,List.mem_cons] at hk
 rcases hk with rfl|rfl|hk
 ·exact lt_of_heap h.top
 ·exact h.map.lt
 ·obtain ⟨r,hr,hk⟩:=mem_recBlocks.1 hk
  exact (h.files r hr).lt k hk
theorem FRec.In.of_blocks {w w':World} {r:FRec} (h:r.In w) (hb:∀k∈r.blocks,w'.heap[k]? = w.heap[k]?):r.In w':=
 ⟨(hb _ (by simp [FRec.blocks])).trans h.cells,h.data.of_block (fun k hk=>hb k (by simp [FRec.blocks,hk])),h.synced,h.name⟩
theorem DS.In.of_blocks {w w':World} {s:DS} (h:s.In w) (hb:∀k∈s.blocks,w'.heap[k]? = w.heap[k]?):s.In w':=
 ⟨(hb _ (by simp [DS.blocks])).trans h.top,h.map.of_block (hb _ (by simp [DS.blocks])),
  fun r hr=>(h.files r hr).of_blocks (fun k hk=>hb k (by simp only [DS.blocks,List.mem_cons];exact .inr (.inr (mem_recBlocks.2 ⟨r,hr,hk⟩)))),
  h.names,h.blocks,h.count,h.room,h.cap,h.armed,h.wfc⟩
theorem DS.In.upd {w w':World} {s:DS} {S:Nat→Prop} (h:s.In w) (hu:Upd S w w') (hn:∀k∈s.blocks,¬S k):s.In w':=
 h.of_blocks (fun k hk=>hu.block k (h.lt k hk) (hn k hk))
structure FileA where
 name:ByteArray
 data:List UInt8
 synced:Nat
structure DiskA where
 cap:Nat
 files:List FileA
 down:Bool
 armed:Int
 cnt:Cnt
def FRec.abs (r:FRec):FileA:=⟨r.name,r.data,r.synced⟩
def DS.abs (s:DS):DiskA:=⟨s.cap,s.recs.map FRec.abs,s.down,s.armed,s.cnt⟩
structure Step (w w':World) (s s2:DS):Prop where
 ins:s2.In w'
 p:s2.p=s.p
 upd:Upd (·∈s.blocks) w w'
 foot:∀k∈s2.blocks,k∈s.blocks∨w.heap.size≤k
theorem Step.refl {w:World} {s:DS} (h:s.In w):Step w w s s:=⟨h,rfl,Upd.refl _ _,fun _ hk=>.inl hk⟩
theorem Step.trans {w w1 w2:World} {s s1 s2:DS} (h:Step w w1 s s1) (h':Step w1 w2 s1 s2):Step w w2 s s2:=
 ⟨h'.ins,h'.p.trans h.p,h.upd.trans h'.upd (fun k hk hm=>(h.foot k hm).resolve_right (by omega)),
  fun k hk=>(h'.foot k hk).elim (fun hm=>h.foot k hm) (fun hm=>.inr (Nat.le_trans h.upd.size hm))⟩
theorem Step.of_upd {w w1:World} {s:DS} (h:s.In w) (hu:Upd (fun _=>False) w w1):Step w w1 s s:=
 ⟨h.upd hu (fun _ _ hf=>hf),rfl,hu.mono (fun _ _ hf=>hf.elim),fun _ hk=>.inl hk⟩
section
variable {w:World} {s:DS}
theorem DS.In.cell (h:s.In w) (i:Nat):w.cell? ⟨s.p,i,none⟩=s.cells[i]?:=cell_of_row w s.p i _ _ _ h.top
theorem DS.In.free (h:s.In w) (i:Nat):w.frozen? ⟨s.p,i,none⟩=false:=frozen_of_row w s.p i _ _ h.top
theorem DS.In.c_cap (h:s.In w):w.cell? ⟨s.p,0,none⟩=some (.int .i64 s.cap):=h.cell 0
theorem DS.In.c_used (h:s.In w):w.cell? ⟨s.p,1,none⟩=some (.int .i64 s.used):=h.cell 1
theorem DS.In.c_map (h:s.In w):w.cell? ⟨s.p,2,none⟩=some (.map (some s.m)):=h.cell 2
theorem DS.In.c_down (h:s.In w):w.cell? ⟨s.p,3,none⟩=some (.bool s.down):=h.cell 3
theorem DS.In.c_armed (h:s.In w):w.cell? ⟨s.p,4,none⟩=some (.int .i64 s.armed):=h.cell 4
theorem DS.In.pm (h:s.In w):s.p≠s.m:=by
 have:=h.blocks
 simp only [DS.blocks,List.nodup_cons,List.mem_cons,not_or] at this
 exact this.1.1
theorem DS.In.plt (h:s.In w):s.p<w.heap.size:=lt_of_heap h.top
end
theorem DS.In.blk_ne_p {w:World} {s:DS} (h:s.In w) {r:FRec} (hr:r∈s.recs):r.blk≠s.p:=by
 have hb:=h.blocks
 simp only [DS.blocks,List.nodup_cons,List.mem_cons,not_or] at hb
 intro e
 exact hb.1.2 (mem_recBlocks.2 ⟨r,hr,by simp [FRec.blocks,e]⟩)
theorem DS.In.data_ne_p {w:World} {s:DS} (h:s.In w) {r:FRec} (hr:r∈s.recs) {g:Nat} (hg:r.dv.ownBlock=some g):g≠s.p:=by
 have hb:=h.blocks
 simp only [DS.blocks,List.nodup_cons,List.mem_cons,not_or] at hb
 intro e
 exact hb.1.2 (mem_recBlocks.2 ⟨r,hr,by simp [FRec.blocks,hg,e]⟩)
theorem le_usedOf {l:List FRec} {r:FRec} (hr:r∈l):r.data.length≤usedOf l:=by
 unfold usedOf
 induction l with
 | nil=>cases hr
 | cons x l ih=>
  simp only [List.map_cons,List.sum_cons]
  cases hr with
  | head=>omega
  | tail _ h=>have:=ih h;omega
theorem DS.In.data_le {w:World} {s:DS} (h:s.In w) {r:FRec} (hr:r∈s.recs):r.data.length≤67108864:=by
 have h1:=le_usedOf hr
 have h2:=h.room
 have h3:=h.cap
 unfold DS.used at h2
 omega
def DS.fileAt (s:DS) (n:ByteArray):Option FRec:=s.recs.find? (fun r=>r.name==n)
def DS.ptrAt (s:DS) (n:ByteArray):Value:=match s.fileAt n with|some r=>.pointer (some ⟨r.blk,0,none⟩)|none=>.pointer none
theorem look_entries (l:List FRec) (n:ByteArray):look (l.map FRec.entry) n=(l.find? (fun r=>r.name==n)).map (fun r=>.pointer (some ⟨r.blk,0,none⟩)):=by
 induction l with
 | nil=>rfl
 | cons r l ih=>
  rw [List.map_cons,look_cons,List.find?_cons]
  simp only [FRec.entry,beq_bytes] at ih⊢
  by_cases h:r.name=n
  ·simp [h]
  ·simp [h,ih]
theorem ptrAt_look (s:DS) (n:ByteArray):(look s.entries n).getD (.pointer none)=s.ptrAt n:=by
 unfold DS.ptrAt DS.fileAt DS.entries
 rw [look_entries]
 cases s.recs.find? (fun r=>r.name==n)<;>rfl
theorem fileAt_mem {s:DS} {n:ByteArray} {r:FRec} (h:s.fileAt n=some r):r∈s.recs∧r.name=n:=by
 have h1:=List.mem_of_find?_eq_some h
 have h2:=List.find?_some h
 simp only [beq_bytes,decide_eq_true_eq] at h2
 exact ⟨h1,h2⟩
def lookRes (down ok t there:Bool):Int:=if down then 3 else if !ok then 40 else if t && !there then 42 else 0
theorem DataIs.shape {w:World} {v:Value} {bs:List UInt8} (h:DataIs w v bs):∃ao cap,v=.slice ao bs.length cap∧bs.length≤cap∧cap≤maxLen∧(ao=none→bs=[]∧cap=0)∧
  ∀a,ao=some a→a.off=0∧a.spot=none∧v.ownBlock=some a.block∧∀i (hi:i<bs.length),w.cell? ⟨a.block,i,none⟩=some (byteV bs[i]):=by
 rcases h with ⟨rfl,rfl⟩|⟨g,cap,cur,rfl,h1,h2,h3,h4,h5⟩
 ·exact ⟨none,0,rfl,Nat.le_refl _,by simp [maxLen],fun _=>⟨rfl,rfl⟩,(fun a ha=>by cases ha)⟩
 ·refine ⟨some ⟨g,0,none⟩,cap,rfl,h2,h4,(fun h=>by cases h),fun a ha=>?_⟩
  cases ha
  refine ⟨rfl,rfl,rfl,fun i hi=>?_⟩
  rw [cell_of_row w g i cur _ _ h1]
  have:=congrArg (fun l=>l[i]?) h5
  simp only [List.getElem?_take,if_pos hi,List.getElem?_map,List.getElem?_eq_getElem hi,Option.map_some] at this
  simpa using this
theorem DataIs.of_owns {w:World} {base:Nat} {v:Value} {n:Nat} {xs:List UInt8} (h:w.ownsRow base 5 1 v n (xs.map byteV)):DataIs w v xs:=by
 obtain ⟨hl,h⟩:=h
 have hn:n=xs.length:=by simpa using hl.symm
 subst hn
 rcases h with ⟨rfl,h0⟩|⟨g,cap,cur,rfl,_,h1,h2,h3,h4,h5⟩
 ·exact .inl ⟨rfl,List.eq_nil_of_length_eq_zero h0⟩
 ·exact .inr ⟨g,cap,cur,rfl,h1,h2,by omega,h3,by simpa using h5⟩
theorem FRec.In.c_dv {w:World} {r:FRec} (h:r.In w):w.cell? ⟨r.blk,0,none⟩=some r.dv:=cell_of_row w r.blk 0 _ _ _ h.cells
theorem FRec.In.c_synced {w:World} {r:FRec} (h:r.In w):w.cell? ⟨r.blk,1,none⟩=some (.int .i64 r.synced):=cell_of_row w r.blk 1 _ _ _ h.cells
theorem DS.In.top_turned {w w':World} {s s2:DS} (h:s.In w) (hu:Upd (fun k=>k=s.p) w w') (hp:s2.p=s.p) (hm:s2.m=s.m) (hr:s2.recs=s.recs) (hc:s2.cap=s.cap)
  (ht:w'.heap[s.p]? = some (.cells s2.cells 122 (0,0))) (ha:0≤s2.armed∧s2.armed≤9223372036854775807):Step w w' s s2:=by
 have hnd:=h.blocks
 have hb:s2.blocks=s.blocks:=by simp [DS.blocks,hp,hm,hr]
 have hne:∀k,k∈s.m :: recBlocks s.recs→k≠s.p:=by
  intro k hk e
  subst e
  simp only [DS.blocks,List.nodup_cons] at hnd
  exact hnd.1 hk
 refine ⟨⟨by rw [hp];exact ht,?_,?_,by rw [hr];exact h.names,by rw [hb];exact h.blocks,by rw [hr];exact h.count,?_,by rw [hc];exact h.cap,ha,trivial⟩,hp,hu.mono ?_,?_⟩
 ·rw [hm,show s2.entries=s.entries from by simp [DS.entries,hr]]
  exact h.map.upd hu (hne _ (.head _))
 ·intro r hr'
  rw [hr] at hr'
  refine (h.files r hr').of_blocks (fun k hk=>?_)
  have hmem:k∈recBlocks s.recs:=mem_recBlocks.2 ⟨r,hr',hk⟩
  exact hu.block k (h.lt k (by simp [DS.blocks,hmem])) (hne k (.tail _ hmem))
 ·have:=h.room
  simp only [DS.used,hr,hc] at this⊢
  exact this
 ·intro k _ e
  simp [DS.blocks,e]
 ·intro k hk
  rw [hb] at hk
  exact .inl hk
theorem lookRes_zero {d ok t th:Bool} : lookRes d ok t th=0↔d=false∧ok=true∧(t=true→th=true):=by
 cases d<;>cases ok<;>cases t<;>cases th<;>simp [lookRes]
theorem zeroFile (w:World):(zeroValue 152).run Tryz.prog w=.ok (.pointer none) w:=by kernel_rfl
theorem run_lookup_file {w:World} {s:DS} (h:s.In w) (n:ByteArray):(Instr.lookup 118 (.map (some s.m)) (.string n) false).run Tryz.prog w=.ok (s.ptrAt n) w:=by
 rw [←ptrAt_look]
 exact run_lookup_str Tryz.underlying118 Tryz.underlying9 zeroFile h.map n
theorem look_any {w:World} {s:DS} (hs:s.In w) (n:ByteArray) (t:Bool) :
  Calls Tryz.prog 89 #[.pointer (some ⟨s.p,0,none⟩),.string n,.bool t] w fun e w'=>e=.returned (.int .i64 (lookRes s.down (nameOk n.data.toList) t (s.fileAt n).isSome))∧w'=w:=by
 have cd:=hs.c_down
 have cm:=hs.c_map
 have hlk:=run_lookup_file hs n
 unfold DS.ptrAt at hlk
 have HS:=hid hs;clear hs
 generalize s.down=dn at cd⊢
 cases dn
 ·generalize hf:s.fileAt n=fo at hlk⊢
  cases hok:nameOk n.data.toList
  ·go_enter Tryz.func89,Tryz.ntmps89
   go_wp2_with (go_at_call 127;refine (named_any _ _).mono ?_;rintro e w' ⟨rfl,rfl⟩)
   go_ret
   exact ⟨rfl,rfl⟩
  ·cases t
   ·go_enter Tryz.func89,Tryz.ntmps89
    go_wp2_with (go_at_call 127;refine (named_any _ _).mono ?_;rintro e w' ⟨rfl,rfl⟩)
    go_ret
    exact ⟨rfl,rfl⟩
   ·cases fo
    all_goals
     simp only [] at hlk
     go_enter Tryz.func89,Tryz.ntmps89
     go_wp2_with (go_at_call 127;refine (named_any _ _).mono ?_;rintro e w' ⟨rfl,rfl⟩)
     go_ret
     exact ⟨rfl,rfl⟩
 ·go_enter Tryz.func89,Tryz.ntmps89
  go_wp2
  go_ret
  exact ⟨rfl,rfl⟩
theorem free_any {w:World} {s:DS} (hs:s.In w) :
  Calls Tryz.prog 34 #[.pointer (some ⟨s.p,0,none⟩)] w fun e w'=>e=.returned (.int .i64 ((s.cap-s.used:Nat):Int))∧∃n,w'=w.drewN n:=by
 have c0:=hs.c_cap
 have c1:=hs.c_used
 have h1:=hs.room
 have h2:=hs.cap
 clear hs
 generalize s.used=u at *
 generalize s.cap=c at *
 go_enter Tryz.func34,Tryz.ntmps34
 go_wp2
 go_quiet (fail)
 go_wp2
 go_ret
 exact ⟨congrArg (fun x=>Ending.returned (Value.int .i64 x)) (by omega),_,rfl⟩
def sizeRes (s:DS) (n:ByteArray):Int:=if lookRes s.down (nameOk n.data.toList) true (s.fileAt n).isSome=0 then (((s.fileAt n).map (·.data.length)).getD 0:Nat) else 0
theorem size_any {w:World} {s:DS} (hs:s.In w) (n:ByteArray) :
  Calls Tryz.prog 43 #[.pointer (some ⟨s.p,0,none⟩),.string n] w fun e w'=>
   e=.returned (.tuple #[.int .i64 (sizeRes s n),.int .i64 (lookRes s.down (nameOk n.data.toList) true (s.fileAt n).isSome)])∧w'=w:=by
 have HL:=hid (look_any hs n true)
 have cm:=hs.c_map
 have hlk:=run_lookup_file hs n
 unfold DS.ptrAt at hlk
 unfold sizeRes
 generalize hd:s.down=dn at HL⊢
 generalize hf:s.fileAt n=fo at HL hlk⊢
 by_cases hr:lookRes dn (nameOk n.data.toList) true fo.isSome=0
 ·obtain ⟨rfl,hok,hth⟩:=lookRes_zero.1 hr
  cases fo with
  | none=>simp at hth
  | some r=>
   simp only [] at hlk
   obtain ⟨hrm,_⟩:=fileAt_mem hf
   have c1:=(hs.files r hrm).c_dv
   obtain ⟨ao,cap,hdv,_,_,_,_⟩:=(hs.files r hrm).data.shape
   rw [hdv] at c1
   rw [hr] at HL⊢
   clear hf hd hs hok hth hdv hr
   simp only [if_true,Option.map_some,Option.getD_some]
   go_enter Tryz.func43,Tryz.ntmps43
   go_wp2_with (go_at_call 89;refine HL.out.mono ?_;rintro e w' ⟨rfl,rfl⟩)
   go_ret2
   exact ⟨rfl,rfl⟩
 ·rw [if_neg hr]
  generalize lookRes dn (nameOk n.data.toList) true fo.isSome=e0 at *
  have hb:(e0 != 0)=true:=by simpa using hr
  clear hr hf hd hlk cm hs
  go_enter Tryz.func43,Tryz.ntmps43
  go_wp2_with (go_at_call 89;refine HL.out.mono ?_;rintro e w' ⟨rfl,rfl⟩)
  go_ret2
  exact ⟨rfl,rfl⟩
theorem ownBlock_owns {w:World} {base:Nat} {e:TypeId} {sz n:Nat} {v:Value} {xs:List Value} (h:w.ownsRow base e sz v n xs):∀b,v.ownBlock=some b→base≤b:=fun b hb=>(h.lt b hb).1
def rangeBad (a n:Int) (len:Nat):Bool:=decide (a<0∨n<0∨(len:Int)<a∨(len:Int)-a<n)
def DS.bumpRead (s:DS):DS:={ s with cnt:={ s.cnt with reads:=wrap64 (s.cnt.reads+1) } }
theorem step_bumpRead {w:World} {s:DS} (hs:s.In w):Step w (w.setCell ⟨s.p,10,none⟩ (.int .i64 (wrap64 (s.cnt.reads+1)))) s s.bumpRead:=
 hs.top_turned (Upd.cell_only _ _ _ _) rfl rfl rfl rfl (heap_setCell_at _ _ _ _ _ _ hs.top) hs.armed
theorem read_yes {w:World} {s:DS} (hs:s.In w) (n:ByteArray) (a k:Nat) {r:FRec} (hf:s.fileAt n=some r)
  (hok:lookRes s.down (nameOk n.data.toList) true (s.fileAt n).isSome=0) (hin:a+k≤r.data.length) :
  Calls Tryz.prog 77 #[.pointer (some ⟨s.p,0,none⟩),.string n,.int .i64 a,.int .i64 k] w fun e w'=>
   ∃v,e=.returned (.tuple #[v,.int .i64 0])∧DataIs w' v ((r.data.drop a).take k)∧(∀b,v.ownBlock=some b→w.heap.size≤b)∧Step w w' s s.bumpRead:=by
 have HL:=hid (look_any hs n true)
 have cm:=hs.c_map
 have c5:w.cell? ⟨s.p,5+5,none⟩=some (.int .i64 s.cnt.reads):=hs.cell 10
 have f5:=hs.free (5+5)
 have hlk:=run_lookup_file hs n
 unfold DS.ptrAt at hlk
 rw [hok] at HL
 rw [hf] at hlk
 obtain ⟨hrm,_⟩:=fileAt_mem hf
 have c1:=(hs.files r hrm).c_dv
 obtain ⟨ao,cap,hdv,hcap,hm,hnone,hsome⟩:=(hs.files r hrm).data.shape
 rw [hdv] at c1
 simp only [] at hlk
 have hm':cap≤9223372036854775807:=by simpa [maxLen] using hm
 clear hm
 have hne:r.blk≠s.p:=hs.blk_ne_p hrm
 have hdl:=hs.data_le hrm
 have HS:=hid hs
 have HK:=hid (show s.bumpRead=s.bumpRead from rfl)
 cases ao with
 | none=>
  obtain ⟨hn0,rfl⟩:=hnone rfl
  rw [hn0] at hin c1
  obtain ⟨rfl,rfl⟩:a=0∧k=0:=by simp at hin;omega
  clear hf hok hs hrm hdv hsome hnone
  go_enter Tryz.func77,Tryz.ntmps77
  go_wp2_with (go_at_call 89;refine HL.out.mono ?_;rintro e w' ⟨rfl,rfl⟩)
  refine (Tryz.bytes_Clone_nil _ _ _).mono ?_
  rintro e w1 ⟨rfl,rfl⟩
  go_wp2
  go_ret2
  exact ⟨_,rfl,.inl ⟨rfl,by simp⟩,by simp [Value.ownBlock],step_bumpRead HS.out⟩
 | some ad=>
  obtain ⟨h1,h2,h3,h4⟩:=hsome ad rfl
  obtain ⟨g,off,spot⟩:=ad
  simp only at h1 h2
  subst h1 h2
  have HD:=hid h4
  have HG:=hid (show g≠s.p from hs.data_ne_p hrm h3)
  clear hf hok hs hrm hdv hsome hnone h4 h3
  go_enter Tryz.func77,Tryz.ntmps77
  go_wp2_with (go_at_call 89;refine HL.out.mono ?_;rintro e w' ⟨rfl,rfl⟩)
  ·obtain ⟨rfl,rfl⟩:cap=a∧k=0:=by omega
   refine (Tryz.bytes_Clone_at _ 0 _ [] _ rfl (by omega) (by intro i hi;omega)).mono ?_
   rintro e w1 ⟨v,rfl,hv,hne',hb⟩
   go_wp2
   go_ret2
   refine ⟨v,rfl,?_,?_,(step_bumpRead HS.out).trans (Step.of_upd (step_bumpRead HS.out).ins (.of_below hb))⟩
   ·simp only [List.take_zero];exact DataIs.of_owns (xs:=[]) hv
   ·intro b hb';have:=ownBlock_owns hv b hb';simpa using this
  ·have hlen:((r.data.drop a).take k).length=k:=by simp;omega
   refine (Tryz.bytes_Clone_at _ k _ (((r.data.drop a).take k).map (fun b=>(b.toNat:Int))) _ (by simp;omega) (by omega) ?_).mono ?_
   ·intro i hi
    have hi':a+i<r.data.length:=by omega
    have hg:g≠s.p:=HG.out
    have hcell:=HD.out (a+i) hi'
    rw [show (Addr.add ⟨g,a,none⟩ i:Addr)=⟨g,a+i,none⟩ from by simp [Addr.add]]
    rw [cell_setCell_ne _ hg,hcell]
    simp only [byteV,Option.some.injEq,Value.int.injEq,true_and]
    rw [List.getD_eq_getElem?_getD,List.getElem?_map,List.getElem?_take,if_pos hi,List.getElem?_drop,List.getElem?_eq_getElem hi']
    rfl
   rintro e w1 ⟨v,rfl,hv,hne',hb⟩
   go_wp2
   go_ret2
   refine ⟨v,rfl,?_,?_,(step_bumpRead HS.out).trans (Step.of_upd (step_bumpRead HS.out).ins (.of_below hb))⟩
   ·rw [List.map_map] at hv;exact DataIs.of_owns hv
   ·intro b hb';have:=ownBlock_owns hv b hb';simpa using this
def lenOf:Value→Nat | .slice _ n _=>n|_=>0
theorem lenOf_owns {w:World} {base:Nat} {e:TypeId} {sz n:Nat} {v:Value} {xs:List Value} (h:w.ownsRow base e sz v n xs):lenOf v=n:=by
 rcases h.2 with ⟨rfl,rfl⟩|⟨g,cap,cur,rfl,_⟩<;>rfl
theorem owns_lower {w:World} {base base':Nat} {e:TypeId} {sz n:Nat} {v:Value} {xs:List Value} (h:w.ownsRow base e sz v n xs) (hb:base'≤base):w.ownsRow base' e sz v n xs:=by
 refine ⟨h.1,h.2.imp id ?_⟩
 rintro ⟨g,cap,cur,hv,hg,r⟩
 exact ⟨g,cap,cur,hv,by omega,r⟩
theorem IterIs.lt {w:World} {r m:Nat} {E left:List (ByteArray×Value)} (h:IterIs w r m E left):r<w.heap.size:=by
 obtain ⟨_,_,_,_,_,_,h2,_⟩:=h
 exact lt_of_heap h2
theorem IterIs.kept {w w':World} {r m:Nat} {E left:List (ByteArray×Value)} {o:Obj} {v:Value} (h:IterIs w r m E left) (hg:(w.alloc o).grownBy w' v.ownBlock) (hv:∀k,v.ownBlock=some k→k≠r∧k≠m):IterIs w' r m E left:=by
 obtain ⟨es,c,si,se,la,h1,h2,rest⟩:=h
 have hb:∀k,k<w.heap.size→(∀j,v.ownBlock=some j→j≠k)→w'.heap[k]? = w.heap[k]?:=by
  intro k hk hn
  rw [hg.block k (by simp;omega) (fun e=>hn k e.symm rfl),heap_alloc_past _ _ _ hk]
 exact ⟨es,c,si,se,la,(hb m (lt_of_heap h1) (fun j hj=>(hv j hj).2)).trans h1,(hb r (lt_of_heap h2) (fun j hj=>(hv j hj).1)).trans h2,rest⟩
theorem Tryz.info9':(Tryz.prog.info? 9).map (fun i=>(i.zero,i.size,i.bytes))=some (some (.string ByteArray.empty),1,16):=by kernel_rfl
def DS.names (s:DS):List ByteArray:=s.recs.map (·.name)
theorem names_any {w:World} {s:DS} (hs:s.In w) :
  Calls Tryz.prog 93 #[.pointer (some ⟨s.p,0,none⟩)] w fun e w'=>
   ∃v n,e=.returned v∧w'.ownsRow w.heap.size 9 1 v n ((sortNames s.names).map Value.string)∧Upd (fun _=>False) w w':=by
 have cm:=hs.c_map
 obtain ⟨i0,hi,hz0,hz1,hz2⟩:=info_parts Tryz.info9'
 obtain ⟨w1,hrange,hit,hup⟩:=run_range_map (P:=Tryz.prog) Tryz.underlying118 hs.map
 go_enter Tryz.func93,Tryz.ntmps93
 go_wp2
 have hEn:s.entries.length≤256:=by simpa [DS.entries] using hs.count
 have HS:=hid hs
 have HR:=hid hup
 have hmlt:=hs.map.lt
 have hrm:w.heap.size≠s.m:=by omega
 clear hrange hs cm hup
 go_loopw [3] (fun v wr=>∃done left:List (ByteArray×Value),(done++left).Perm s.entries∧wr.ownsRow (w.heap.size+1) 9 1 v done.length (done.map (fun x=>Value.string x.1))∧IterIs wr w.heap.size s.m s.entries left∧Upd (fun _=>False) w wr)
  (fun v _=>256-lenOf v)
 case atStart=>exact ⟨[],s.entries,List.Perm.refl _,World.ownsRow_nil _ _ _ _,hit,HR.out⟩
 case round=>
  obtain ⟨done,left,hperm,hown,hit',hup'⟩:=hrel
  have hne:∀k,_→w.heap.size+1≤k:=fun k hk=>(hown.lt k hk).1
  have hlen:=lenOf_owns hown
  have HP:=hid hperm
  have hdl:done.length+left.length≤256:=by have:=hperm.length_eq;simp at this;omega
  have HU:=hid hup'
  have HN:=hid hne
  have HL:=hid hlen
  clear hperm hup' hne hlen
  by_cases hle:left=[]
  ·subst hle
   have hnx:=fun T'=>run_next_end (P:=Tryz.prog) hit' T'
   clear hit hit'
   have hown':=hown
   have hlt0:=hown.lt
   obtain ⟨hl0,hv0⟩:=hown'
   have HO:=hid hown
   have hsz:(done.map (fun x=>x.1.data.toList)).length=done.length:=by simp
   have hmap:done.map (fun x=>Value.string x.1)=(done.map (fun x=>x.1.data.toList)).map encStr:=by
    rw [List.map_map];apply List.map_congr_left;intro x _;simp [encStr]
   have hsort:sortNames s.names=((done.map (fun x=>x.1.data.toList)).mergeSort leB).map toBA:=by
    have hp:s.names.Perm (done.map (·.1)):=by
     have:=(HP.out.map (·.1)).symm
     simp only [List.append_nil] at this
     have e:s.entries.map (·.1)=s.names:=by simp [DS.entries,DS.names,FRec.entry]
     rwa [e] at this
    rw [sortNames_congr hp,sortNames,List.map_map];rfl
   have HM:=hid hmap;have HT:=hid hsort
   have hlen':((done.map (fun x=>x.1.data.toList)).mergeSort leB).length=done.length:=by rw [List.length_mergeSort,hsz]
   have Kb:=hid hlen'
   clear hmap hsort hlen' hl0 hlt0
   rcases hv0 with ⟨hv,hd0⟩|⟨g,cap,cur,hv,hr⟩
   ·have hd:done=[]:=List.eq_nil_of_length_eq_zero hd0
    subst hd
    rw [hv]
    clear hown
    go_wp2_with (go_at_call 146;refine (Tryz.slices_Sort_string_none _ _ _).mono ?_;rintro e w' ⟨rfl,rfl⟩)
    go_ret
    refine ⟨_,0,rfl,?_,HU.out⟩
    rw [HT.out,List.map_nil,List.mergeSort_nil,List.map_nil,List.map_nil]
    exact World.ownsRow_nil _ _ _ _
   ·rw [hv] at hown HN⊢
    rw [HM.out] at hown
    obtain ⟨hh,hg,hss⟩:=holds_owned hown
    have HH:=hid hh;have HW:=hid hown
    clear hh hown hr
    go_wp2_with (go_at_call 146;rw [←hsz];refine (Tryz.slices_Sort_string _ _ _ _ _ HH.out hg (by omega)).mono ?_;rintro e w' ⟨rfl,q,os,rfl⟩)
    go_ret
    refine ⟨_,done.length,rfl,?_,HU.out.trans (upd_grow_put _ _ _ _ _ _ _) ?_⟩
    ·rw [HT.out,List.map_map]
     exact owns_lower (owns_sorted HW.out Kb.out) (by omega)
    ·intro k hk e
     have:=HN.out g rfl
     omega
  ·obtain ⟨pre,x,post,w2,hpp,hnx,hen,hit2,hup2⟩:=run_next_some (P:=Tryz.prog) hit' hle hrm
   clear hit hit'
   have hb2:=hup2.size
   have hown2:=owns_upd hown hup2 (fun k hk e=>by have:=HN.out k hk;omega)
   have Kc:=hid hpp;have Ka:=hid hit2;have Kd:=hid hup2
   clear hpp hit2 hup2 hown
   go_wp2_with (at_builtin;refine wpList_append_own _ rfl _ _ 73 rfl (w.heap.size+1) 9 i0 (.string ByteArray.empty) 1 16 Tryz.underlying73 hi hz0 hz1 hz2 rfl (by decide) _ _ _ rfl (hown2.alloc _) ⟨w2.heap.size,0,none⟩ 1 1 [.string x.1] rfl rfl ?c1 ?c2 ?c3 ?c4 ?c5 ?_)
   case c1=>
    intro j u hj
    match j,hj with
    | 0,hj=>simp at hj;subst hj;simp [Addr.add]
   case c2=>intro u hu;simp at hu;subst hu;rfl
   case c3=>unfold maxLen;omega
   case c4=>omega
   case c5=>have:=Ka.out.lt;simp;omega
   intro v' w3 hown3 hg3 _
   have hU3:Upd (fun _=>False) w w3:=by
    refine ((HU.out.trans Kd.out (fun k hk e=>by omega)).alloc _).grown hg3 ?_
    intro k hk hlt
    have:=HN.out k hk
    omega
   have hlen3:=lenOf_owns hown3
   have hperm3:((done ++ [x])++(pre++post)).Perm s.entries:=by
    refine List.Perm.trans ?_ HP.out
    rw [Kc.out,List.append_assoc]
    refine List.Perm.append_left _ ?_
    show (x :: (pre++post)).Perm _
    exact List.perm_middle.symm
   have hown4:w3.ownsRow (w.heap.size+1) 9 1 v' (done ++ [x]).length ((done ++ [x]).map (fun x=>Value.string x.1)):=by
    rw [List.length_append,List.map_append];exact hown3
   have hit3:IterIs w3 w.heap.size s.m s.entries (pre++post):=Ka.out.kept hg3 (fun k hk=>by have:=HN.out k hk;omega)
   have H1:=hid hU3;have H3:=hid hlen3;have H4:=hid hperm3;have H5:=hid hown4;have H6:=hid hit3
   clear hU3 hlen3 hperm3 hown4 hit3 hown3 hown2 hnx hen hg3
   go_wp2
   go_roundw
   case rel=>exact ⟨done ++ [x],pre++post,H4.out,H5.out,H6.out,H1.out⟩
   case measure=>rw [H3.out,HL.out];have:0<left.length:=List.length_pos_iff.2 hle;omega
theorem run_eql_ptr_some {P:Program} {t e:TypeId} {q:TypeInfo} (ht:P.underlying t=some (.pointer e)) (hte:P.info? e=some q) (hsz:q.size≠0) (b i j:Nat) (w:World) :
  (binOp .eql t (.pointer (some ⟨b,i,none⟩)) (.pointer (some ⟨b,j,none⟩))).run P w=.ok (.bool (decide (i=j))) w:=by
 have ha:((⟨b,i,none⟩:Addr)==⟨b,j,none⟩)=decide (i=j):=by
  by_cases h:i=j
  ·subst h;simp
  ·have:(⟨b,i,none⟩:Addr)≠⟨b,j,none⟩:=fun e=>by simp only [Addr.mk.injEq] at e;exact h e.2.1
   simp [h]
 have hs:(sameAddr ⟨b,i,none⟩ ⟨b,j,none⟩).run P w=.ok (decide (i=j)) w:=by simp [sameAddr,ha]
 have h:∀d:Nat,(Op.equalIn (d+1) t (.pointer (some ⟨b,i,none⟩)) (.pointer (some ⟨b,j,none⟩))).run P w=.ok (decide (i=j)) w:=fun d=>by
  simp [Op.equalIn,run_underlying ht,sizeOf,typeInfo,hte,hsz,hs]
 simp only [binOp]
 simp [Op.equal,Op.maxDepth,h 9999]
theorem run_eql_ptr_none {P:Program} {t e:TypeId} (ht:P.underlying t=some (.pointer e)) (b j:Nat) (w:World) :
  (binOp .eql t (.pointer none) (.pointer (some ⟨b,j,none⟩))).run P w=.ok (.bool false) w:=by
 have h:∀d:Nat,(Op.equalIn (d+1) t (.pointer none) (.pointer (some ⟨b,j,none⟩))).run P w=.ok false w:=fun d=>by
  simp [Op.equalIn,run_underlying ht]
 simp only [binOp]
 simp [Op.equal,Op.maxDepth,h 9999]
theorem Tryz.infoInt:(Tryz.prog.info? 3).map (fun i=>i.size)=some 1:=by kernel_rfl
theorem Tryz.eqlInt (b i j:Nat) (w:World):(binOp .eql 156 (.pointer (some ⟨b,i,none⟩)) (.pointer (some ⟨b,j,none⟩))).run Tryz.prog w=.ok (.bool (decide (i=j))) w:=by
 obtain ⟨q,hq,hs⟩:=Option.map_eq_some_iff.1 Tryz.infoInt
 exact run_eql_ptr_some Tryz.underlying156 hq (by omega) b i j w
theorem act1_no {w:World} {bx bd bc:Nat} (u:FrameMode) (hx:w.cell? ⟨bx,0,none⟩=some (.bool false)) :
  CallsD Tryz.prog 145 #[.pointer (some ⟨bx,0,none⟩),.pointer (some ⟨bd,0,none⟩),.pointer (some ⟨bc,0,none⟩)] u w fun e u' w'=>u'=u∧e=.returned (.tuple #[])∧w'=w:=by
 go_enter_d Tryz.func145,Tryz.ntmps145
 go_wp2
 go_end0
 exact ⟨rfl,rfl⟩
theorem act1_one {w:World} {bx bd bc p:Nat} {n:Int} (u:FrameMode) (hx:w.cell? ⟨bx,0,none⟩=some (.bool true)) (hd:w.cell? ⟨bd,0,none⟩=some (.pointer (some ⟨p,0,none⟩)))
  (hc:w.cell? ⟨bc,0,none⟩=some (.pointer none)) (c5:w.cell? ⟨p,5,none⟩=some (.int .i64 n)) (f5:w.frozen? ⟨p,5,none⟩=false) (h1:bc≠p) :
  CallsD Tryz.prog 145 #[.pointer (some ⟨bx,0,none⟩),.pointer (some ⟨bd,0,none⟩),.pointer (some ⟨bc,0,none⟩)] u w fun e u' w'=>u'=u∧e=.returned (.tuple #[])∧w'=w.setCell ⟨p,5,none⟩ (.int .i64 (wrap64 (n+1))):=by
 go_enter_d Tryz.func145,Tryz.ntmps145
 go_wp2
 go_end0
 exact ⟨rfl,rfl⟩
theorem act1_two {w:World} {bx bd bc p j:Nat} {n k:Int} (u:FrameMode) (hx:w.cell? ⟨bx,0,none⟩=some (.bool true)) (hd:w.cell? ⟨bd,0,none⟩=some (.pointer (some ⟨p,0,none⟩)))
  (hc:w.cell? ⟨bc,0,none⟩=some (.pointer (some ⟨p,j,none⟩))) (c5:w.cell? ⟨p,5,none⟩=some (.int .i64 n)) (f5:w.frozen? ⟨p,5,none⟩=false) (h1:bc≠p)
  (cj:w.cell? ⟨p,j,none⟩=some (.int .i64 k)) (fj:w.frozen? ⟨p,j,none⟩=false) (hj:5≠j) :
  CallsD Tryz.prog 145 #[.pointer (some ⟨bx,0,none⟩),.pointer (some ⟨bd,0,none⟩),.pointer (some ⟨bc,0,none⟩)] u w fun e u' w'=>u'=u∧e=.returned (.tuple #[])∧
   w'=(w.setCell ⟨p,5,none⟩ (.int .i64 (wrap64 (n+1)))).setCell ⟨p,j,none⟩ (.int .i64 (wrap64 (k+1))):=by
 go_enter_d Tryz.func145,Tryz.ntmps145
 go_wp2
 go_end0
 exact ⟨rfl,rfl⟩
def bump (c:Cnt):Option Nat→Cnt
 | none=>{ c with acts:=wrap64 (c.acts+1) }
 | some 6=>{ c with acts:=wrap64 (c.acts+1),appends:=wrap64 (c.appends+1) }
 | some 7=>{ c with acts:=wrap64 (c.acts+1),syncs:=wrap64 (c.syncs+1) }
 | some 8=>{ c with acts:=wrap64 (c.acts+1),renames:=wrap64 (c.renames+1) }
 | some 9=>{ c with acts:=wrap64 (c.acts+1),deletes:=wrap64 (c.deletes+1) }
 | some _=>c
def actA (a:DiskA) (co:Option Nat) (F:List FileA):Int×DiskA:=
 if a.armed=0 then (0,{ a with files:=F,cnt:=bump a.cnt co })
 else if a.armed=1 then (if co=some 6 then (3,{ a with files:=F,cnt:=bump a.cnt co,armed:=0,down:=true }) else (3,{ a with armed:=0,down:=true }))
 else (0,{ a with files:=F,cnt:=bump a.cnt co,armed:=a.armed-1 })
def cntPtr (p:Nat):Option Nat→Option Addr
 | none=>none
 | some j=>some ⟨p,j,none⟩
def Does (G:Nat) (caps:Array Value) (w:World) (s:DS) (F:List FileA):Prop:=
 ∀W s1,s1.In W→Upd (fun k=>k=s.p) w W→s1.p=s.p→s1.m=s.m→s1.recs=s.recs→s1.cap=s.cap→s1.cnt=s.cnt→
  Calls Tryz.prog G caps W fun e W'=>e=.returned (.tuple #[])∧∃s2,Step W W' s1 s2∧s2.cap=s1.cap∧s2.down=s1.down∧s2.armed=s1.armed∧s2.cnt=s1.cnt∧s2.recs.map FRec.abs=F
def cntAt (c:Cnt):Nat→Int
 | 6=>c.appends
 | 7=>c.syncs
 | 8=>c.renames
 | 9=>c.deletes
 | _=>0
def DS.bumped (s:DS) (co:Option Nat):DS:={ s with cnt:=bump s.cnt co }
theorem act1_yes {w:World} {s:DS} (hs:s.In w) {bx bd bc:Nat} (u:FrameMode) {co:Option Nat} (hco:co=none∨co=some 6∨co=some 7∨co=some 8∨co=some 9)
  (hx:w.cell? ⟨bx,0,none⟩=some (.bool true)) (hd:w.cell? ⟨bd,0,none⟩=some (.pointer (some ⟨s.p,0,none⟩))) (hc:w.cell? ⟨bc,0,none⟩=some (.pointer (cntPtr s.p co))) (h1:bc≠s.p) :
  CallsD Tryz.prog 145 #[.pointer (some ⟨bx,0,none⟩),.pointer (some ⟨bd,0,none⟩),.pointer (some ⟨bc,0,none⟩)] u w fun e u' w'=>u'=u∧e=.returned (.tuple #[])∧Step w w' s (s.bumped co):=by
 have c5:=hs.cell 5
 have f5:=hs.free 5
 have one:Step w (w.setCell ⟨s.p,5,none⟩ (.int .i64 (wrap64 (s.cnt.acts+1)))) s (s.bumped none):=
  hs.top_turned (Upd.cell_only _ _ _ _) rfl rfl rfl rfl (heap_setCell_at _ _ _ _ _ _ hs.top) hs.armed
 have two:∀(j:Nat),j=6∨j=7∨j=8∨j=9→Step w ((w.setCell ⟨s.p,5,none⟩ (.int .i64 (wrap64 (s.cnt.acts+1)))).setCell ⟨s.p,j,none⟩ (.int .i64 (wrap64 (cntAt s.cnt j+1)))) s (s.bumped (some j)):=by
  intro j hj
  refine hs.top_turned ((Upd.cell_only _ _ _ _).trans (Upd.cell_only _ _ _ _) (fun k _ h=>h)) rfl rfl rfl rfl ?_ hs.armed
  rw [heap_setCell_at _ _ _ _ _ _ (heap_setCell_at _ _ _ _ _ _ hs.top)]
  rcases hj with rfl|rfl|rfl|rfl<;>rfl
 rcases hco with rfl|rfl|rfl|rfl|rfl
 ·exact (act1_one u hx hd hc c5 f5 h1).mono fun e u' w' ⟨a,b,c⟩=>⟨a,b,c ▸ one⟩
 ·exact (act1_two u hx hd hc c5 f5 h1 (hs.cell 6) (hs.free 6) (by omega)).mono fun e u' w' ⟨a,b,c⟩=>⟨a,b,c ▸ two 6 (by simp)⟩
 ·exact (act1_two u hx hd hc c5 f5 h1 (hs.cell 7) (hs.free 7) (by omega)).mono fun e u' w' ⟨a,b,c⟩=>⟨a,b,c ▸ two 7 (by simp)⟩
 ·exact (act1_two u hx hd hc c5 f5 h1 (hs.cell 8) (hs.free 8) (by omega)).mono fun e u' w' ⟨a,b,c⟩=>⟨a,b,c ▸ two 8 (by simp)⟩
 ·exact (act1_two u hx hd hc c5 f5 h1 (hs.cell 9) (hs.free 9) (by omega)).mono fun e u' w' ⟨a,b,c⟩=>⟨a,b,c ▸ two 9 (by simp)⟩
theorem Step.other {w w':World} {s s2:DS} (h:Step w w' s s2) {b i:Nat} (hb:b∉s.blocks) (hlt:b<w.heap.size):w'.cell? ⟨b,i,none⟩=w.cell? ⟨b,i,none⟩:=
 World.cell?_of_block (h.upd.block b hlt hb)
theorem act_plain {w:World} {s:DS} (hs:s.In w) {G:Nat} {caps:Array Value} {co:Option Nat} {F:List FileA} (hG:∀W,(callFunc G caps).run Tryz.prog W=.ok (.enter G caps) W) (hdo:Does G caps w s F) (h0:s.armed=0)
  (hco:co=none∨co=some 6∨co=some 7∨co=some 8∨co=some 9) :
  Calls Tryz.prog 90 #[.pointer (some ⟨s.p,0,none⟩),.pointer (cntPtr s.p co),.func (.func G) #[] caps] w fun e w'=>
   e=.returned (.int .i64 (actA s.abs co F).1)∧∃s2,Step w w' s s2∧s2.abs=(actA s.abs co F).2:=by
 have c4:=hs.c_armed
 have hp:=hs.plt
 have hp1:s.p<w.heap.size+1:=by omega
 have hp2:s.p<w.heap.size+1+1:=by omega
 rw [h0] at c4
 have HS:=hid hs;have Kc:=hid hdo;have H0:=hid h0
 clear hs hdo h0
 generalize hcp:cntPtr s.p co=cp
 have HC:=hid hcp;clear hcp
 go_enter_defers Tryz.func90,Tryz.ntmps90
 go_wp2_with fail
 have hu3:Upd (fun _=>False) w (((w.alloc (.cells #[.pointer (some ⟨s.p,0,none⟩)] 28)).alloc (.cells #[.pointer cp] 156)).alloc (.cells #[.bool true] 4)):=(((Upd.refl _ _).alloc _).alloc _).alloc _
 have hin:=HS.out.upd hu3 (fun _ _ h=>h)
 have hnb:∀k,w.heap.size≤k→k∉s.blocks:=fun k hk hm=>by have:=HS.out.lt k hm;omega
 have Kd:=hid hin;have Kb:=hid hu3;have Ka:=hid hnb
 clear hin hu3 hnb
 refine (Kc.out _ s Kd.out (Kb.out.mono (fun _ _ h=>h.elim)) rfl rfl rfl rfl rfl).mono ?_
 rintro e W' ⟨rfl,s2,hst,e1,e2,e3,e4,e5⟩
 have hx:=(hst.other (i:=0) (Ka.out (w.heap.size+1+1) (by omega)) (by simp)).trans (by simp [go_sem]:_=some (.bool true))
 have hd:=(hst.other (i:=0) (Ka.out w.heap.size (by omega)) (by simp;omega)).trans (by simp [go_sem]:_=some (.pointer (some ⟨s.p,0,none⟩)))
 have hc:=(hst.other (i:=0) (Ka.out (w.heap.size+1) (by omega)) (by simp)).trans (by simp [go_sem]:_=some (.pointer cp))
 have H1:=hid hst;have H2:=hid e1;have H3:=hid e2;have H4:=hid e3;have H5:=hid e4;have H6:=hid e5
 clear hst e1 e2 e3 e4 e5
 go_wp2
 refine leaves_cons (f:=145) (args:=#[.pointer (some ⟨w.heap.size+1+1,0,none⟩),.pointer (some ⟨w.heap.size,0,none⟩),.pointer (some ⟨w.heap.size+1,0,none⟩)]) (by simp) (by simp [go_sem]) ?_
 refine (act1_yes H1.out.ins .returning hco hx (by rw [hd,H1.out.p]) (by rw [hc,H1.out.p,HC.out]) (by rw [H1.out.p];omega)).mono ?_
 rintro e u' w'' ⟨rfl,rfl,hst3⟩
 refine ⟨_,results_tmp rfl _ _ _,?_⟩
 refine ⟨by rw [show (actA s.abs co F).1=0 from by simp [actA,DS.abs,H0.out]];rfl,s2.bumped co,((Step.of_upd HS.out Kb.out).trans H1.out).trans hst3,?_⟩
 simp [actA,DS.abs,DS.bumped,H0.out,H2.out,H3.out,H4.out,H5.out,H6.out]
theorem act_later {w:World} {s:DS} (hs:s.In w) {G:Nat} {caps:Array Value} {co:Option Nat} {F:List FileA} (hG:∀W,(callFunc G caps).run Tryz.prog W=.ok (.enter G caps) W) (hdo:Does G caps w s F) (h0:1<s.armed)
  (hco:co=none∨co=some 6∨co=some 7∨co=some 8∨co=some 9) :
  Calls Tryz.prog 90 #[.pointer (some ⟨s.p,0,none⟩),.pointer (cntPtr s.p co),.func (.func G) #[] caps] w fun e w'=>
   e=.returned (.int .i64 (actA s.abs co F).1)∧∃s2,Step w w' s s2∧s2.abs=(actA s.abs co F).2:=by
 have c4:=hs.c_armed
 have f4:=hs.free 4
 have hp:=hs.plt
 have hp1:s.p<w.heap.size+1:=by omega
 have hp2:s.p<w.heap.size+1+1:=by omega
 have ha:=hs.armed
 obtain ⟨ha1,ha2⟩:=ha
 have hne:¬(s.armed=0):=by omega
 have hne1:¬(s.armed=1):=by omega
 have HS:=hid hs;have Kd:=hid hdo
 have N0:=hid hne;have N1:=hid hne1
 clear hs hdo hne hne1
 generalize hcp:cntPtr s.p co=cp
 have HC:=hid hcp;clear hcp
 generalize har:s.armed=ar at *
 have HA:=hid har;clear har
 have hb1:(ar-1==0)=false:=by simp;omega
 go_enter_defers Tryz.func90,Tryz.ntmps90
 go_wp2_with fail
 have hst1:Step w (w.setCell ⟨s.p,4,none⟩ (.int .i64 (ar-1))) s { s with armed:=ar-1 }:=
  HS.out.top_turned (Upd.cell_only _ _ _ _) rfl rfl rfl rfl (heap_setCell_at _ _ _ _ _ _ HS.out.top) ⟨by show 0≤ar-1;omega,by show ar-1≤_;omega⟩
 have hu3:Upd (fun _=>False) (w.setCell ⟨s.p,4,none⟩ (.int .i64 (ar-1))) ((((w.setCell ⟨s.p,4,none⟩ (.int .i64 (ar-1))).alloc (.cells #[.pointer (some ⟨s.p,0,none⟩)] 28)).alloc (.cells #[.pointer cp] 156)).alloc (.cells #[.bool true] 4)):=(((Upd.refl _ _).alloc _).alloc _).alloc _
 have hin:=hst1.ins.upd hu3 (fun _ _ h=>h)
 have hnb:∀k,w.heap.size≤k→k∉s.blocks:=fun k hk hm=>by have:=HS.out.lt k hm;omega
 have Ke:=hid hin;have Kb:=hid hu3;have Ka:=hid hnb;have Kc:=hid hst1
 clear hin hu3 hnb hst1
 refine (Kd.out _ { s with armed:=ar-1 } Ke.out ((Upd.cell_only _ _ _ _).trans Kb.out (fun _ _ h=>h.elim)) rfl rfl rfl rfl rfl).mono ?_
 rintro e W' ⟨rfl,s2,hst,e1,e2,e3,e4,e5⟩
 have hx:=(hst.other (i:=0) (Ka.out (w.heap.size+1+1) (by omega)) (by simp)).trans (by simp [go_sem]:_=some (.bool true))
 have hd:=(hst.other (i:=0) (Ka.out w.heap.size (by omega)) (by simp;omega)).trans (by simp [go_sem]:_=some (.pointer (some ⟨s.p,0,none⟩)))
 have hc:=(hst.other (i:=0) (Ka.out (w.heap.size+1) (by omega)) (by simp)).trans (by simp [go_sem]:_=some (.pointer cp))
 have hp':=hst.p
 have H1:=hid hst;have H2:=hid e1;have H3:=hid e2;have H4:=hid e3;have H5:=hid e4;have H6:=hid e5;have H7:=hid hp'
 clear hst e1 e2 e3 e4 e5 hp'
 go_wp2
 refine leaves_cons (f:=145) (args:=#[.pointer (some ⟨w.heap.size+1+1,0,none⟩),.pointer (some ⟨w.heap.size,0,none⟩),.pointer (some ⟨w.heap.size+1,0,none⟩)]) (by simp) (by simp [go_sem]) ?_
 refine (act1_yes H1.out.ins .returning hco hx (by rw [hd,H7.out]) (by rw [hc,H7.out,HC.out]) (by rw [H7.out];show w.heap.size+1≠s.p;omega)).mono ?_
 rintro e u' w'' ⟨rfl,rfl,hst3⟩
 refine ⟨_,results_tmp rfl _ _ _,?_⟩
 refine ⟨by rw [show (actA s.abs co F).1=0 from by simp [actA,DS.abs,HA.out,N0.out,N1.out]];rfl,s2.bumped co,((Kc.out.trans (Step.of_upd Kc.out.ins Kb.out)).trans H1.out).trans hst3,?_⟩
 simp [actA,DS.abs,DS.bumped,HA.out,N0.out,N1.out,H2.out,H3.out,H4.out,H5.out,H6.out]
theorem act_last {w:World} {s:DS} (hs:s.In w) {G:Nat} {caps:Array Value} {F:List FileA} (hG:∀W,(callFunc G caps).run Tryz.prog W=.ok (.enter G caps) W) (hdo:Does G caps w s F) (h0:s.armed=1) :
  Calls Tryz.prog 90 #[.pointer (some ⟨s.p,0,none⟩),.pointer (some ⟨s.p,6,none⟩),.func (.func G) #[] caps] w fun e w'=>
   e=.returned (.int .i64 (actA s.abs (some 6) F).1)∧∃s2,Step w w' s s2∧s2.abs=(actA s.abs (some 6) F).2:=by
 have c4:=hs.c_armed
 have c3:=hs.c_down
 have f4:=hs.free 4
 have f3:=hs.free 3
 have hp:=hs.plt
 have hp1:s.p<w.heap.size+1:=by omega
 have hp2:s.p<w.heap.size+1+1:=by omega
 rw [h0] at c4
 have HS:=hid hs;have Kd:=hid hdo;have H0:=hid h0
 clear hs hdo h0
 go_enter_defers Tryz.func90,Tryz.ntmps90
 go_wp2_with fail
 have heq:=fun W=>Tryz.eqlInt s.p 6 6 W
 go_region
 go_wp2
 have hst1:Step w ((w.setCell ⟨s.p,4,none⟩ (.int .i64 0)).setCell ⟨s.p,3,none⟩ (.bool true)) s { s with armed:=0,down:=true }:=by
  refine HS.out.top_turned ((Upd.cell_only _ _ _ _).trans (Upd.cell_only _ _ _ _) (fun k _ h=>h)) rfl rfl rfl rfl ?_ ⟨by simp,by simp⟩
  rw [heap_setCell_at _ _ _ _ _ _ (heap_setCell_at _ _ _ _ _ _ HS.out.top)]
  rfl
 have hu3:Upd (fun _=>False) ((w.setCell ⟨s.p,4,none⟩ (.int .i64 0)).setCell ⟨s.p,3,none⟩ (.bool true)) (((((w.setCell ⟨s.p,4,none⟩ (.int .i64 0)).setCell ⟨s.p,3,none⟩ (.bool true)).alloc (.cells #[.pointer (some ⟨s.p,0,none⟩)] 28)).alloc (.cells #[.pointer (some ⟨s.p,6,none⟩)] 156)).alloc (.cells #[.bool true] 4)).drew:=((((Upd.refl _ _).alloc _).alloc _).alloc _).drew
 have hin:=hst1.ins.upd hu3 (fun _ _ h=>h)
 have hnb:∀k,w.heap.size≤k→k∉s.blocks:=fun k hk hm=>by have:=HS.out.lt k hm;omega
 have Ke:=hid hin;have Kb:=hid hu3;have Ka:=hid hnb;have Kc:=hid hst1
 clear hin hu3 hnb hst1
 refine (Kd.out _ { s with armed:=0,down:=true } Ke.out (((Upd.cell_only _ _ _ _).trans (Upd.cell_only _ _ _ _) (fun k _ h=>h)).trans Kb.out (fun _ _ h=>h.elim)) rfl rfl rfl rfl rfl).mono ?_
 rintro e W' ⟨rfl,s2,hst,e1,e2,e3,e4,e5⟩
 have hx:=(hst.other (i:=0) (Ka.out (w.heap.size+1+1) (by omega)) (by simp)).trans (by simp [go_sem]:_=some (.bool true))
 have hd:=(hst.other (i:=0) (Ka.out w.heap.size (by omega)) (by simp;omega)).trans (by simp [go_sem]:_=some (.pointer (some ⟨s.p,0,none⟩)))
 have hc:=(hst.other (i:=0) (Ka.out (w.heap.size+1) (by omega)) (by simp)).trans (by simp [go_sem]:_=some (.pointer (some ⟨s.p,6,none⟩)))
 have hp':=hst.p
 have H1:=hid hst;have H2:=hid e1;have H3:=hid e2;have H4:=hid e3;have H5:=hid e4;have H6:=hid e5;have H7:=hid hp'
 clear hst e1 e2 e3 e4 e5 hp'
 go_wp2
 refine leaves_cons (f:=145) (args:=#[.pointer (some ⟨w.heap.size+1+1,0,none⟩),.pointer (some ⟨w.heap.size,0,none⟩),.pointer (some ⟨w.heap.size+1,0,none⟩)]) (by simp) (by simp [go_sem]) ?_
 refine (act1_yes (co:=some 6) H1.out.ins .returning (by simp) hx (by rw [hd,H7.out]) (by rw [hc,H7.out];rfl) (by rw [H7.out];show w.heap.size+1≠s.p;omega)).mono ?_
 rintro e u' w'' ⟨rfl,rfl,hst3⟩
 refine ⟨_,results_tmp rfl _ _ _,?_⟩
 refine ⟨by rw [show (actA s.abs (some 6) F).1=3 from by simp [actA,DS.abs,H0.out]];rfl,s2.bumped (some 6),((Kc.out.trans (Step.of_upd Kc.out.ins Kb.out)).trans H1.out).trans hst3,?_⟩
 simp [actA,DS.abs,DS.bumped,H0.out,H2.out,H3.out,H4.out,H5.out,H6.out]
theorem act_stop {w:World} {s:DS} (hs:s.In w) {G:Nat} {caps:Array Value} {co:Option Nat} {F:List FileA} (h0:s.armed=1) (hco:co=none∨co=some 7∨co=some 8∨co=some 9) :
  Calls Tryz.prog 90 #[.pointer (some ⟨s.p,0,none⟩),.pointer (cntPtr s.p co),.func (.func G) #[] caps] w fun e w'=>
   e=.returned (.int .i64 (actA s.abs co F).1)∧∃s2,Step w w' s s2∧s2.abs=(actA s.abs co F).2:=by
 have heq:∀W,(binOp .eql 156 (.pointer (cntPtr s.p co)) (.pointer (some ⟨s.p,6,none⟩))).run Tryz.prog W=.ok (.bool false) W:=by
  intro W
  rcases hco with rfl|rfl|rfl|rfl
  ·exact run_eql_ptr_none Tryz.underlying156 _ _ _
  ·exact (Tryz.eqlInt s.p 7 6 W).trans rfl
  ·exact (Tryz.eqlInt s.p 8 6 W).trans rfl
  ·exact (Tryz.eqlInt s.p 9 6 W).trans rfl
 have hn6:¬co=some 6:=by rcases hco with rfl|rfl|rfl|rfl<;>simp
 have Ka:=hid hn6
 clear hco hn6
 have c4:=hs.c_armed
 have c3:=hs.c_down
 have f4:=hs.free 4
 have f3:=hs.free 3
 have hp:=hs.plt
 have hp1:s.p<w.heap.size+1:=by omega
 have hp2:s.p<w.heap.size+1+1:=by omega
 rw [h0] at c4
 have HS:=hid hs;have H0:=hid h0
 clear hs h0
 generalize cntPtr s.p co=cp at *
 go_enter_defers Tryz.func90,Tryz.ntmps90
 go_wp2_with fail
 go_region
 have hst1:Step w ((w.setCell ⟨s.p,4,none⟩ (.int .i64 0)).setCell ⟨s.p,3,none⟩ (.bool true)) s { s with armed:=0,down:=true }:=by
  refine HS.out.top_turned ((Upd.cell_only _ _ _ _).trans (Upd.cell_only _ _ _ _) (fun k _ h=>h)) rfl rfl rfl rfl ?_ ⟨by simp,by simp⟩
  rw [heap_setCell_at _ _ _ _ _ _ (heap_setCell_at _ _ _ _ _ _ HS.out.top)]
  rfl
 have hu3:Upd (fun _=>False) ((w.setCell ⟨s.p,4,none⟩ (.int .i64 0)).setCell ⟨s.p,3,none⟩ (.bool true)) (((((w.setCell ⟨s.p,4,none⟩ (.int .i64 0)).setCell ⟨s.p,3,none⟩ (.bool true)).alloc (.cells #[.pointer (some ⟨s.p,0,none⟩)] 28)).alloc (.cells #[.pointer cp] 156)).alloc (.cells #[.bool false] 4)).drew:=((((Upd.refl _ _).alloc _).alloc _).alloc _).drew
 have Kb:=hid hst1;have Kc:=hid hu3
 clear hst1 hu3
 go_wp2
 refine leaves_cons (f:=145) (args:=#[.pointer (some ⟨w.heap.size+1+1,0,none⟩),.pointer (some ⟨w.heap.size,0,none⟩),.pointer (some ⟨w.heap.size+1,0,none⟩)]) (by simp) (by simp [go_sem]) ?_
 refine (act1_no .returning (by simp [go_sem])).mono ?_
 rintro e u' w'' ⟨rfl,rfl,rfl⟩
 refine ⟨_,results_tmp rfl _ _ _,?_⟩
 refine ⟨by rw [show (actA s.abs co F).1=3 from by simp [actA,DS.abs,H0.out,Ka.out]];rfl,{ s with armed:=0,down:=true },Kb.out.trans (Step.of_upd Kb.out.ins Kc.out),?_⟩
 simp [actA,DS.abs,H0.out,Ka.out]
theorem act_any {w:World} {s:DS} (hs:s.In w) {G:Nat} {caps:Array Value} {co:Option Nat} {F:List FileA} (hG:∀W,(callFunc G caps).run Tryz.prog W=.ok (.enter G caps) W) (hdo:Does G caps w s F)
  (hco:co=none∨co=some 6∨co=some 7∨co=some 8∨co=some 9) :
  Calls Tryz.prog 90 #[.pointer (some ⟨s.p,0,none⟩),.pointer (cntPtr s.p co),.func (.func G) #[] caps] w fun e w'=>
   e=.returned (.int .i64 (actA s.abs co F).1)∧∃s2,Step w w' s s2∧s2.abs=(actA s.abs co F).2:=by
 by_cases h0:s.armed=0
 ·exact act_plain hs hG hdo h0 hco
 by_cases h1:s.armed=1
 ·rcases hco with rfl|rfl|rfl|rfl|rfl
  ·exact act_stop hs h1 (by simp)
  ·exact act_last hs hG hdo h1
  ·exact act_stop hs h1 (by simp)
  ·exact act_stop hs h1 (by simp)
  ·exact act_stop hs h1 (by simp)
 ·exact act_later hs hG hdo (by have:=hs.armed;omega) hco
end Go.Proofs.YtgaidmohdhaonaaGreatDoor
