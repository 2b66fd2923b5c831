/-
  manifest.Load: the disk keeps its blocks (load_own, in ManiO).
  Lists that were handed out and lie untouched, in memory: rows of any element; what a push, a mark and a growth leave. No walk stands here.
-/
import Derived.Test.YtgaidmohdhaonaaGreatDoorYK
import Derived.Test.YtgaidmohdhaonaaGreatDoorYJ
import Derived.Deep.OwnRows
import Derived.Laws.CopyRow
import Derived.Laws.IdiomCopy
import Derived.Lib.SlBuf
set_option linter.unusedVariables false
set_option linter.unusedSimpArgs false
set_option linter.unnecessarySimpa false
set_option linter.unusedSectionVars false
namespace Go.Proofs.YtgaidmohdhaonaaGreatDoor
end Go.Proofs.YtgaidmohdhaonaaGreatDoor
namespace Go.Proofs.YtgaidmohdhaonaaGreatDoor
open Go Go.RowKit
structure RowTy (T E:TypeId) (z b:Nat):Prop where
 und:Tryz.prog.underlying T=some (.slice E)
 info:∃i0 zz,Tryz.prog.info? E=some i0∧i0.zero=some zz∧i0.size=z∧i0.bytes=b∧zz.cells.size=z
 pos:0<z
 few:b≤96
theorem Tryz.infoByteR:(Tryz.prog.info? 5).map (fun i=>(i.zero,i.size,i.bytes))=some (some (.int .u8 0),1,1):=by kernel_rfl
theorem Tryz.infoBytesR:(Tryz.prog.info? 22).map (fun i=>(i.zero,i.size,i.bytes))=some (some (.slice none 0 0),1,24):=by kernel_rfl
def SRow (w:World) (E:TypeId) (z:Nat) (v:Value) (n:Nat) (xs:List Value):Prop:=
 xs.length=n*z∧((v=.slice none 0 0∧n=0)∨∃g cap cur,v=.slice (some ⟨g,0,none⟩) n cap∧w.heap[g]? = some (.cells cur E (0,0))∧n≤cap∧cap≤maxLen∧cap*z≤cur.size∧cur.toList.take (n*z)=xs)
theorem SRow.of_owns {w:World} {base z n:Nat} {E:TypeId} {v:Value} {xs:List Value} (h:w.ownsRow base E z v n xs):SRow w E z v n xs:=by
 refine ⟨h.1,h.2.imp id ?_⟩
 rintro ⟨g,cap,cur,hv,-,hg,h1,h2,h3,h4⟩
 exact ⟨g,cap,cur,hv,hg,h1,h2,Nat.le_of_eq h3.symm,h4⟩
theorem SRow.nil (w:World) (E:TypeId) (z:Nat):SRow w E z (.slice none 0 0) 0 []:=⟨by simp,.inl ⟨rfl,rfl⟩⟩
theorem SRow.upd {S:Nat→Prop} {w w':World} {E:TypeId} {z n:Nat} {v:Value} {xs:List Value} (h:SRow w E z v n xs) (hu:Upd S w w') (hn:∀k,v.ownBlock=some k→¬S k):SRow w' E z v n xs:=by
 obtain ⟨hl,h⟩:=h
 refine ⟨hl,?_⟩
 rcases h with h|⟨g,cap,cur,rfl,hg,r⟩
 ·exact .inl h
 ·exact .inr ⟨g,cap,cur,rfl,hu.get hg (hn g rfl),r⟩
theorem SRow.lt {w:World} {E:TypeId} {z n:Nat} {v:Value} {xs:List Value} (h:SRow w E z v n xs) (k:Nat) (hk:v.ownBlock=some k):k<w.heap.size:=by
 rcases h.2 with ⟨rfl,_⟩|⟨g,cap,cur,rfl,hg,_⟩
 ·cases hk
 ·cases hk;exact lt_of_heap hg
theorem SRow.cells {w:World} {E:TypeId} {z n g c o:Nat} {v:Value} {xs:List Value} (h:SRow w E z v n xs) (hv:v=.slice (some ⟨g,o,none⟩) n c):∀j u,xs[j]? = some u→w.cell? ((⟨g,o,none⟩:Addr).add j)=some u:=by
 intro j u hu
 rcases h.2 with ⟨e,_⟩|⟨g',cap,cur,e,hg,h1,h2,h3,h4⟩
 ·rw [hv] at e;cases e
 ·rw [hv] at e
  injection e with e1 _ _
  injection e1 with e1
  injection e1 with e1 e2
  subst e1 e2
  rw [show (Addr.add ⟨g,0,none⟩ j:Addr)=⟨g,j,none⟩ from by simp [Addr.add_lit],cell_of_row _ _ j _ _ _ hg,←Array.getElem?_toList]
  rw [←h4,List.getElem?_take] at hu
  split at hu
  ·exact hu
  ·cases hu
theorem new_cells (w:World) (E:TypeId) (M:List Value):∀j u,M[j]? = some u→(w.alloc (.cells M.toArray E)).cell? ((⟨w.heap.size,0,none⟩:Addr).add j)=some u:=by
 intro j u hu
 rw [show (Addr.add ⟨w.heap.size,0,none⟩ j:Addr)=⟨w.heap.size,j,none⟩ from by simp [Addr.add_lit],cell_of_row _ _ j _ _ _ (heap_alloc_new w _)]
 simpa using hu
section
variable {T E:TypeId} {z b:Nat}
theorem RowTy.more (hr:RowTy T E z b) {w:World} {v:Value} {n:Nat} {xs:List Value} (h:SRow w E z v n xs) (a:Addr) (m c:Nat) (news:List Value) (hl:news.length=m*z) (hnews:∀j u,news[j]? = some u→w.cell? (a.add j)=some u)
  (h1:∀u∈news,u.oneCell'=true) (hn:n+m≤3000000001) (ty:TypeId) :
  ∃v' w',(Builtin.append_ #[T,T] ty #[v,.slice (some a) m c]).run Tryz.prog w=.ok v' w'∧SRow w' E z v' (n+m) (xs++news)∧
   Upd (fun k=>v.ownBlock=some k) w w'∧(∀k,v'.ownBlock=some k→v.ownBlock=some k∨w.heap.size≤k)∧(v'.ownBlock=v.ownBlock∨Upd (fun _=>False) w w'):=by
 obtain ⟨i0,zz,hi,hz0,hz1,hz2,hz3⟩:=hr.info
 have hb:=hr.few
 have hby:(n+m)*b≤140737488355328:=Nat.le_trans (Nat.mul_le_mul hn hb) (by decide)
 have hlen:(xs++news).length=(n+m)*z:=by rw [List.length_append,h.1,hl,Nat.add_mul]
 rcases id h.2 with ⟨rfl,rfl⟩|⟨g,cap,cur,rfl,hg,hnc,hcm,hcs,htake⟩
 ·have hx:xs=[]:=List.eq_nil_of_length_eq_zero (by have:=h.1;simpa using this)
  subst hx
  obtain ⟨v',w',hrun,hown,hgr,-,hat⟩:=run_append_own_at (P:=Tryz.prog) w 0 T ty E i0 zz z b hr.und hi hz0 hz1 hz2 hz3 hr.pos (.slice none 0 0) 0 [] (World.ownsRow_nil _ _ _ _) a m c news hl hnews h1 (by unfold maxLen;omega) hby (Nat.zero_le _)
  have hu:Upd (fun _=>False) w w':=(Upd.refl _ _).grown hgr (fun k hk _=>by cases hk)
  refine ⟨v',w',hrun,SRow.of_owns hown,hu.mono (fun _ _ e=>e.elim),fun k hk=>?_,.inr hu⟩
  rcases hat with h1|h1
  ·exact .inl (h1 ▸ hk)
  ·rw [h1] at hk
   injection hk with hk
   exact .inr (by omega)
 ·subst hz1
  by_cases hroom:n+m≤cap
  ·have hfit:n*i0.size+news.length≤cur.size:=by rw [hl,←Nat.add_mul];exact Nat.le_trans (Nat.mul_le_mul_right _ hroom) hcs
   have hr2:=run_append_room (P:=Tryz.prog) w T ty E i0 hr.und hi g n cap cur hg a m c news hl hnews h1 hroom hfit
   refine ⟨_,_,hr2,⟨hlen,.inr ⟨g,cap,_,rfl,setRow_heap w g cur _ E _ hg,hroom,hcm,?_,?_⟩⟩,(Upd.refl _ _).grown (row:=some g) ⟨rfl,rfl,rfl,by simp,fun k _ hk=>setRow_other w g k _ (fun e=>hk (by rw [e]))⟩ (fun k hk _=>hk),fun k hk=>.inl hk,.inl rfl⟩
   ·simp only [List.size_toArray,List.length_append,List.length_take,List.length_drop,Array.length_toList]
    omega
   ·rw [htake,←hlen]
    exact List.take_left
  ·have hr2:=run_append_grow (P:=Tryz.prog) w T ty E i0 zz hr.und hi hz0 ⟨g,0,none⟩ n cap xs h.1 (h.cells rfl) a m c news hl hnews (by omega) (by omega) (growslice_fits (by omega) (by rw [hz2];exact hby))
   have hge:=grownCap_ge w (n+m) cap E
   have hcm:grownCap w (n+m) cap E≤maxLen:=grownCap_le_maxLen w (n+m) cap E (by unfold maxLen;omega)
   refine ⟨_,_,hr2,⟨hlen,.inr ⟨w.heap.size,_,_,rfl,heap_alloc_new w.drew _,hge,hcm,?_,?_⟩⟩,((Upd.refl _ _).drew).alloc _,fun k hk=>.inr (by simp only [Value.ownBlock,Option.some.injEq] at hk;omega),.inr (((Upd.refl _ _).drew).alloc _)⟩
   ·apply Nat.le_of_eq
    simp only [Array.size_append,List.size_toArray,size_zeroCells,hz3,h.1,hl]
    rw [←Nat.add_mul,←Nat.add_mul]
    exact congrArg (fun q=>q*i0.size) (by omega)
   ·simp only [Array.toList_append,List.append_assoc]
    rw [←List.append_assoc,←hlen]
    exact List.take_left
theorem RowTy.push (hr:RowTy T E z b) {w:World} {v:Value} {n:Nat} {xs M:List Value} (h:SRow w E z v n xs) (hM:M.length=z) (h1:∀u∈M,u.oneCell'=true) (hn:n≤3000000000) (ty:TypeId) :
  ∃v' w',(Builtin.append_ #[T,T] ty #[v,.slice (some ⟨w.heap.size,0,none⟩) 1 1]).run Tryz.prog (w.alloc (.cells M.toArray E))=.ok v' w'∧SRow w' E z v' (n+1) (xs++M)∧
   Upd (fun k=>v.ownBlock=some k) w w'∧(∀k,v'.ownBlock=some k→v.ownBlock=some k∨w.heap.size≤k)∧(v'.ownBlock=v.ownBlock∨Upd (fun _=>False) w w'):=by
 have hal:Upd (fun _=>False) w (w.alloc (.cells M.toArray E)):=(Upd.refl _ _).alloc _
 obtain ⟨v',w',hrun,hown,hu,hat,hor⟩:=hr.more (w:=w.alloc (.cells M.toArray E)) (h.upd hal (fun _ _ h=>h)) ⟨w.heap.size,0,none⟩ 1 1 M (by rw [hM,Nat.one_mul]) (new_cells w E M) h1 (by omega) ty
 have hsz:(w.alloc (.cells M.toArray E)).heap.size=w.heap.size+1:=by simp
 exact ⟨v',w',hrun,hown,(hal.mono (T:=fun k=>v.ownBlock=some k) (fun _ _ h=>h.elim)).trans hu (fun _ _ h=>h),fun k hk=>(hat k hk).imp id (fun h=>by omega),hor.imp id (fun h=>hal.trans h (fun _ _ h=>h))⟩
end
theorem SRow.cell {w:World} {z n:Nat} {E:TypeId} {v:Value} {xs:List Value} (h:SRow w E z v n xs) {k:Nat} {u:Value} (hu:xs[k]? = some u):∃g c,v=.slice (some ⟨g,0,none⟩) n c∧g<w.heap.size∧w.cell? ⟨g,k,none⟩=some u:=by
 obtain ⟨hl,h⟩:=h
 rcases h with ⟨rfl,rfl⟩|⟨g,cap,cur,rfl,hg,h2,h3,h4,h5⟩
 ·have:xs=[]:=List.eq_nil_of_length_eq_zero (by simpa using hl)
  subst this
  simp at hu
 ·refine ⟨g,cap,rfl,lt_of_heap hg,?_⟩
  rw [cell_of_row w g k cur _ _ hg,←Array.getElem?_toList]
  rw [←h5,List.getElem?_take] at hu
  split at hu
  ·exact hu
  ·cases hu
theorem SRow.slice {w:World} {z n:Nat} {E:TypeId} {v:Value} {xs:List Value} (h:SRow w E z v n xs):∃ao c,v=.slice ao n c∧n≤c∧c≤9223372036854775807∧∀a,ao=some a→a.off=0∧a.spot=none:=by
 rcases h.2 with ⟨rfl,hz⟩|⟨g,cap,cur,rfl,-,h1,h2,-⟩
 ·exact ⟨none,0,by rw [hz],by omega,by omega,fun a h=>by cases h⟩
 ·exact ⟨_,cap,rfl,h1,by simpa [maxLen] using h2,fun a h=>by cases h;exact ⟨rfl,rfl⟩⟩
end Go.Proofs.YtgaidmohdhaonaaGreatDoor
