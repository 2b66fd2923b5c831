/-
  What the disk's acts make of a disk as plain data.
  Results that lie in cells.
  Package manifest, walked: asked, there; what Load and Swap make of a disk, as plain data.
  Package manifest, walked: the steps of Swap.
-/
import Derived.Test.YtgaidmohdhaonaaGreatDoorGE
import Derived.Test.YtgaidmohdhaonaaGreatDoorYG
set_option linter.unusedVariables false
set_option linter.unusedSimpArgs false
set_option linter.unnecessarySimpa false
set_option linter.unusedSectionVars false
set_option maxRecDepth 100000
namespace Go.Proofs.YtgaidmohdhaonaaGreatDoor
open Go Go.RowKit
def findP (l:List FileA) (n:ByteArray):Option FileA:=l.find? (fun f=>f.name==n)
def lookP (a:DiskA) (n:ByteArray) (t:Bool):Int:=lookRes a.down (nameOk n.data.toList) t (findP a.files n).isSome
def sizeP (a:DiskA) (n:ByteArray):Int:=if lookP a n true=0 then (((findP a.files n).map (·.data.length)).getD 0:Nat) else 0
def usedP (a:DiskA):Nat:=(a.files.map (·.data.length)).sum
def createP (a:DiskA) (n:ByteArray):Int×DiskA:=
 if lookP a n false≠0 then (lookP a n false,a)
 else if (findP a.files n).isSome then (41,a)
 else if 256≤a.files.length then (44,a)
 else actA a none (a.files ++ [⟨n,[],0⟩])
def deleteP (a:DiskA) (n:ByteArray):Int×DiskA:=
 if lookP a n true≠0 then (lookP a n true,a) else actA a (some 9) (dropA a.files n)
def syncP (a:DiskA) (n:ByteArray):Int×DiskA:=
 if lookP a n true≠0 then (lookP a n true,a) else actA a (some 7) (updA a.files n (fun f=>{ f with synced:=f.data.length }))
def appendP (a:DiskA) (n:ByteArray) (bs:List UInt8):Int×DiskA:=
 if lookP a n false≠0 then (lookP a n false,a)
 else if 67108864<bs.length then (2,a)
 else if (findP a.files n).isNone then (42,a)
 else if a.cap-usedP a<bs.length then (4,a)
 else actA a (some 6) (updA a.files n (fun f=>{ f with data:=f.data++bs }))
def renameP (a:DiskA) (n t:ByteArray):Int×DiskA:=
 if lookP a n false≠0 then (lookP a n false,a)
 else if nameOk t.data.toList=false then (40,a)
 else match findP a.files n with
  | none=>(42,a)
  | some f=>actA a (some 8) (renameF a.files n t f)
def readP (a:DiskA):DiskA:={ a with cnt:={ a.cnt with reads:=wrap64 (a.cnt.reads+1) } }
theorem fileAt_findP (s:DS) (n:ByteArray):(s.fileAt n).map FRec.abs=findP s.abs.files n:=by
 unfold findP DS.fileAt
 show _=(s.recs.map FRec.abs).find? _
 rw [List.find?_map]
 rfl
theorem isSome_findP (s:DS) (n:ByteArray):(s.fileAt n).isSome=(findP s.abs.files n).isSome:=by rw [←fileAt_findP];simp
theorem usedP_abs (s:DS):s.used=usedP s.abs:=by simp [DS.used,usedOf,usedP,DS.abs,List.map_map,Function.comp_def,FRec.abs]
theorem lookP_abs (s:DS) (n:ByteArray) (t:Bool):lookRes s.down (nameOk n.data.toList) t (s.fileAt n).isSome=lookP s.abs n t:=by unfold lookP;rw [isSome_findP];rfl
theorem sizeRes_p (s:DS) (n:ByteArray):sizeRes s n=sizeP s.abs n:=by
 unfold sizeRes sizeP
 rw [lookP_abs,←fileAt_findP]
 cases s.fileAt n<;>simp [FRec.abs]
theorem createA_p (s:DS) (n:ByteArray):createA s n=createP s.abs n:=by
 unfold createA createP
 rw [lookP_abs,isSome_findP,show s.recs.length=s.abs.files.length from by simp [DS.abs]]
theorem syncA_p (s:DS) (n:ByteArray):syncA s n=syncP s.abs n:=by
 unfold syncA syncP
 rw [lookP_abs]
theorem deleteA_p (s:DS) (n:ByteArray):deleteA s n=deleteP s.abs n:=by
 unfold deleteA deleteP
 rw [lookP_abs]
theorem appendA_p (s:DS) (n:ByteArray) (bs:List UInt8):appendA s n bs=appendP s.abs n bs:=by
 unfold appendA appendP
 rw [lookP_abs,←fileAt_findP,←usedP_abs,show s.cap=s.abs.cap from rfl]
 cases s.fileAt n<;>simp
theorem renameA_p (s:DS) (n t:ByteArray):renameA s n t=renameP s.abs n t:=by
 unfold renameA renameP
 rw [lookP_abs,←fileAt_findP]
 cases s.fileAt n<;>simp
theorem bumpRead_p (s:DS):s.bumpRead.abs=readP s.abs:=rfl
theorem results_ver1 {fn:Func} {p:Tmp} (h:fn.results=#[.cell p 25]) (tmps:Array Value) (w:World) (g:Nat) (cs:Array Value) (hsz:cs.size=7)
  (hp:tmps.getD p undef=.pointer (some ⟨g,0,none⟩)) (hg:w.heap[g]? = some (.cells cs 25 (0,0))) :
  (results fn tmps).run Tryz.prog w=.ok (.agg cs) w:=
 results_cell_row h tmps w g _ cs (0,0) _ hp hg Tryz.underlying25 rfl (by rw [hsz];kernel_rfl)
theorem results_ver3 {fn:Func} {p u u2:Tmp} (h:fn.results=#[.cell p 25,.tmp u,.tmp u2]) (tmps:Array Value) (w:World) (g:Nat) (cs:Array Value) (hsz:cs.size=7)
  (hp:tmps.getD p undef=.pointer (some ⟨g,0,none⟩)) (hg:w.heap[g]? = some (.cells cs 25 (0,0))) :
  (results fn tmps).run Tryz.prog w=.ok (.tuple #[.agg cs,tmps.getD u undef,tmps.getD u2 undef]) w:=by
 have hl:=run_loadVar_row (P:=Tryz.prog) w g 25 25 cs (0,0) _ hg Tryz.underlying25 rfl (by rw [hsz];kernel_rfl)
 have hp':tmps[p]?.getD undef=.pointer (some ⟨g,0,none⟩):=by simpa using hp
 simp only [results,h]
 simp [Sem.run_bind,Result.andThen,hp',asAddr,hl]
theorem run_loadVar_errno (w:World) (a:Addr) (v:Value) (hc:w.cell? a=some v):(loadVar 29 a).run Tryz.prog w=.ok v w:=by
 have hagg:(isAgg 29).run Tryz.prog w=.ok false w:=by kernel_rfl
 unfold loadVar
 simp only [Sem.run_bind,hagg,Result.andThen]
 simp [go_sem,hc]
theorem results_errno {fn:Func} {p:Tmp} (h:fn.results=#[.cell p 29]) (tmps:Array Value) (w:World) (a:Addr) (v:Value)
  (hp:tmps.getD p undef=.pointer (some a)) (hc:w.cell? a=some v):(results fn tmps).run Tryz.prog w=.ok v w:=by
 have hl:=run_loadVar_errno w a v hc
 have hp':tmps[p]?.getD undef=.pointer (some a):=by simpa using hp
 simp only [results,h]
 simp [Sem.run_bind,Result.andThen,hp',asAddr,hl]
abbrev tempB:ByteArray:={ data:=#[77,65,78,73,70,69,83,84,46,84,77,80] }
abbrev nameB:ByteArray:={ data:=#[77,65,78,73,70,69,83,84] }
def askedP (a:DiskA) (pre:ByteArray):Int:=
 if lookP a (pre++tempB) true=3∨lookP a (pre++tempB) true=40 then lookP a (pre++tempB) true else if 32<pre.size then 40 else 0
def loadP (a:DiskA) (pre:ByteArray):(Option VerA×Int)×DiskA:=
 if askedP a pre≠0 then ((none,askedP a pre),a)
 else if lookP a (pre++nameB) true≠0 then ((none,0),a)
 else match decodeA (((findP a.files (pre++nameB)).map (·.data)).getD []) with
  | none=>((none,100),readP a)
  | some x=>((some x,0),readP a)
def runP:List (DiskA→Int×DiskA)→DiskA→Int×DiskA
 | [],a=>(0,a)
 | f :: fs,a=>if (f a).1≠0 then f a else runP fs (f a).2
def stepsP (a:DiskA) (pre:ByteArray) (b:List UInt8):List (DiskA→Int×DiskA):=
 (if lookP a (pre++tempB) true=0 then [fun a=>deleteP a (pre++tempB)] else []) ++
  [fun a=>createP a (pre++tempB),fun a=>appendP a (pre++tempB) b,fun a=>syncP a (pre++tempB),fun a=>renameP a (pre++tempB) (pre++nameB)]
def strokeP (a:DiskA) (pre:ByteArray) (b:List UInt8):Int×DiskA:=
 if (runP (stepsP a pre b) a).1=4 then (4,(deleteP (runP (stepsP a pre b) a).2 (pre++tempB)).2) else runP (stepsP a pre b) a
def swapP (a:DiskA) (pre:ByteArray) (x:VerA):Int×DiskA:=
 if askedP a pre≠0 then (askedP a pre,a)
 else if okA x=false then (101,a)
 else if (loadP a pre).1.2≠0 then ((loadP a pre).1.2,(loadP a pre).2)
 else if x.gen≠((loadP a pre).1.1.map (·.gen)).getD 0+1 then (102,(loadP a pre).2)
 else strokeP (loadP a pre).2 pre (encodeB x)
theorem lookRes_cases (d ok t th:Bool):lookRes d ok t th=3∨lookRes d ok t th=40∨lookRes d ok t th=42∨lookRes d ok t th=0:=by
 unfold lookRes
 cases d<;>cases ok<;>cases t<;>cases th<;>simp
theorem size_p {w:World} {s:DS} (hs:s.In w) (n:ByteArray) :
  Calls Tryz.prog 43 #[.pointer (some ⟨s.p,0,none⟩),.string n] w fun e w'=>e=.returned (.tuple #[.int .i64 (sizeP s.abs n),.int .i64 (lookP s.abs n true)])∧w'=w:=by
 have h:=size_any hs n
 rw [sizeRes_p,lookP_abs] at h
 exact h
theorem asked_any {w:World} {s:DS} (hs:s.In w) (pre:ByteArray) (hp:pre.size≤140737488355328) :
  Calls Tryz.prog 57 #[.pointer (some ⟨s.p,0,none⟩),.string pre] w fun e w'=>e=.returned (.int .i64 (askedP s.abs pre))∧w'=w:=by
 have HZ:=hid (size_p hs (pre++tempB))
 have hc:lookP s.abs (pre++tempB) true=3∨lookP s.abs (pre++tempB) true=40∨lookP s.abs (pre++tempB) true=42∨lookP s.abs (pre++tempB) true=0:=lookRes_cases _ _ _ _
 have HA:=hid (show askedP s.abs pre=if lookP s.abs (pre++tempB) true=3∨lookP s.abs (pre++tempB) true=40 then lookP s.abs (pre++tempB) true else if 32<pre.size then 40 else 0 from rfl)
 have hp1:¬(9223372036854775807<pre.size+12):=by omega
 clear hs
 generalize lookP s.abs (pre++tempB) true=e0 at *
 rcases hc with rfl|rfl|rfl|rfl
 ·go_enter Tryz.func57,Tryz.ntmps57
  go_wp2_with (go_at_call 43;refine HZ.out.mono ?_;rintro e w' ⟨rfl,rfl⟩)
  go_ret
  exact ⟨by rw [HA.out];rfl,rfl⟩
 ·go_enter Tryz.func57,Tryz.ntmps57
  go_wp2_with (go_at_call 43;refine HZ.out.mono ?_;rintro e w' ⟨rfl,rfl⟩)
  go_ret
  exact ⟨by rw [HA.out];rfl,rfl⟩
 ·by_cases h32:32<pre.size
  ·have Ka:=hid h32
   have h32i:(32:Int)<(pre.size:Int):=by omega
   go_enter Tryz.func57,Tryz.ntmps57
   go_wp2_with (go_at_call 43;refine HZ.out.mono ?_;rintro e w' ⟨rfl,rfl⟩)
   go_ret
   exact ⟨by rw [HA.out,if_neg (by decide),if_pos Ka.out];rfl,rfl⟩
  ·have Ka:=hid h32
   have h32i:¬(32:Int)<(pre.size:Int):=by omega
   go_enter Tryz.func57,Tryz.ntmps57
   go_wp2_with (go_at_call 43;refine HZ.out.mono ?_;rintro e w' ⟨rfl,rfl⟩)
   go_ret
   exact ⟨by rw [HA.out,if_neg (by decide),if_neg Ka.out];rfl,rfl⟩
 ·by_cases h32:32<pre.size
  ·have Ka:=hid h32
   have h32i:(32:Int)<(pre.size:Int):=by omega
   go_enter Tryz.func57,Tryz.ntmps57
   go_wp2_with (go_at_call 43;refine HZ.out.mono ?_;rintro e w' ⟨rfl,rfl⟩)
   go_ret
   exact ⟨by rw [HA.out,if_neg (by decide),if_pos Ka.out];rfl,rfl⟩
  ·have Ka:=hid h32
   have h32i:¬(32:Int)<(pre.size:Int):=by omega
   go_enter Tryz.func57,Tryz.ntmps57
   go_wp2_with (go_at_call 43;refine HZ.out.mono ?_;rintro e w' ⟨rfl,rfl⟩)
   go_ret
   exact ⟨by rw [HA.out,if_neg (by decide),if_neg Ka.out];rfl,rfl⟩
theorem askedNil_any (w:World) (pre:ByteArray) :
  Calls Tryz.prog 57 #[.pointer none,.string pre] w fun e w'=>e=.returned (.int .i64 1)∧w'=w:=by
 go_enter Tryz.func57,Tryz.ntmps57
 go_wp2
 go_ret
 exact ⟨rfl,rfl⟩
theorem there_any {w:World} {s:DS} (hs:s.In w) (n:ByteArray) :
  Calls Tryz.prog 65 #[.pointer (some ⟨s.p,0,none⟩),.string n] w fun e w'=>e=.returned (.bool (decide (lookP s.abs n true=0)))∧w'=w:=by
 have HZ:=hid (size_p hs n)
 generalize lookP s.abs n true=e0 at *
 have hd:(e0==0)=decide (e0=0):=by rw [Bool.eq_iff_iff];simp
 clear hs
 go_enter Tryz.func65,Tryz.ntmps65
 go_wp2_with (go_at_call 43;refine HZ.out.mono ?_;rintro e w' ⟨rfl,rfl⟩)
 go_ret
 exact ⟨by first|rfl|(rw [←hd]),rfl⟩
structure Beside (W:World) (s:DS) (p:Nat) (R:List (Nat×Obj)):Prop where
 ins:s.In W
 pp:s.p=p
 rows:∀r∈R,W.heap[r.1]? = some r.2
 out:∀r∈R,r.1∉s.blocks
theorem Beside.step {W W':World} {s s2:DS} {p:Nat} {R:List (Nat×Obj)} (h:Beside W s p R) (hst:Step W W' s s2):Beside W' s2 p R:=
 ⟨hst.ins,hst.p.trans h.pp,fun r hr=>hst.upd.get (h.rows r hr) (h.out r hr),fun r hr e=>(hst.foot _ e).elim (h.out r hr) (fun hk=>by have:=lt_of_heap (h.rows r hr);omega)⟩
theorem Beside.upd {W W':World} {s:DS} {p:Nat} {R:List (Nat×Obj)} (h:Beside W s p R) (hu:Upd (fun _=>False) W W'):Beside W' s p R:=
 ⟨h.ins.upd hu (fun _ _ e=>e),h.pp,fun r hr=>hu.get (h.rows r hr) (fun e=>e),h.out⟩
theorem Beside.cell {W:World} {s:DS} {p:Nat} {R:List (Nat×Obj)} (h:Beside W s p R) {b:Nat} {v:Value} {t:TypeId} (hr:(b,Obj.cells #[v] t (0,0))∈R):W.cell? ⟨b,0,none⟩=some v:=by
 rw [cell_of_row W b 0 _ _ _ (h.rows _ hr)];rfl
theorem create_p {w:World} {s:DS} (hs:s.In w) (n:ByteArray) :
  Calls Tryz.prog 33 #[.pointer (some ⟨s.p,0,none⟩),.string n] w fun e w'=>e=.returned (.int .i64 (createP s.abs n).1)∧∃s2,Step w w' s s2∧s2.abs=(createP s.abs n).2:=by
 have h:=create_any hs n
 rwa [createA_p] at h
theorem delete_p {w:World} {s:DS} (hs:s.In w) (n:ByteArray) :
  Calls Tryz.prog 37 #[.pointer (some ⟨s.p,0,none⟩),.string n] w fun e w'=>e=.returned (.int .i64 (deleteP s.abs n).1)∧∃s2,Step w w' s s2∧s2.abs=(deleteP s.abs n).2:=by
 have h:=delete_any hs n
 rwa [deleteA_p] at h
theorem sync_p {w:World} {s:DS} (hs:s.In w) (n:ByteArray) :
  Calls Tryz.prog 62 #[.pointer (some ⟨s.p,0,none⟩),.string n] w fun e w'=>e=.returned (.int .i64 (syncP s.abs n).1)∧∃s2,Step w w' s s2∧s2.abs=(syncP s.abs n).2:=by
 have h:=sync_any hs n
 rwa [syncA_p] at h
theorem rename_p {w:World} {s:DS} (hs:s.In w) (n t:ByteArray) :
  Calls Tryz.prog 64 #[.pointer (some ⟨s.p,0,none⟩),.string n,.string t] w fun e w'=>e=.returned (.int .i64 (renameP s.abs n t).1)∧∃s2,Step w w' s s2∧s2.abs=(renameP s.abs n t).2:=by
 have h:=rename_any hs n t
 rwa [renameA_p] at h
theorem append_p {w:World} {s:DS} (hs:s.In w) (n:ByteArray) {v:Value} {bs:List UInt8} (hv:DataIs w v bs) (hvb:∀k,v.ownBlock=some k→k≠s.p) :
  Calls Tryz.prog 35 #[.pointer (some ⟨s.p,0,none⟩),.string n,v] w fun e w'=>e=.returned (.int .i64 (appendP s.abs n bs).1)∧∃s2,Step w w' s s2∧s2.abs=(appendP s.abs n bs).2:=by
 have h:=append_any hs n hv.bytes (fun a l c e _=>by subst e;exact ⟨hvb _ rfl,hv.lt _ rfl⟩)
 rwa [appendA_p] at h
section
variable {p bd bp bf bb:Nat} {n pre:ByteArray} {td tp tf tb:TypeId}
def DoesP (p:Nat) (R:List (Nat×Obj)) (G:Nat) (caps:Array Value) (f:DiskA→Int×DiskA):Prop:=
 ∀W s,Beside W s p R→Calls Tryz.prog G caps W fun e W'=>e=.returned (.int .i64 (f s.abs).1)∧∃s2,Step W W' s s2∧s2.abs=(f s.abs).2
theorem swap2_does {R:List (Nat×Obj)} (hd:(bd,Obj.cells #[.pointer (some ⟨p,0,none⟩)] td (0,0))∈R) (hf:(bf,Obj.cells #[.string n] tf (0,0))∈R) :
  DoesP p R 59 #[.pointer (some ⟨bd,0,none⟩),.pointer (some ⟨bf,0,none⟩)] (fun a=>createP a n):=by
 intro W s hB
 have cd:=hB.cell hd
 have cf:=hB.cell hf
 have HC:=hid (create_p hB.ins n)
 rw [hB.pp] at HC
 clear hB hd hf
 go_enter Tryz.func59,Tryz.ntmps59
 go_wp2_with fail
 refine HC.out.mono ?_
 rintro e W' ⟨rfl,h⟩
 have H:=hid h
 clear h cd cf
 go_wp2
 go_ret
 exact ⟨rfl,H.out⟩
theorem swap3_does {R:List (Nat×Obj)} {v:Value} {bs:List UInt8} (hd:(bd,Obj.cells #[.pointer (some ⟨p,0,none⟩)] td (0,0))∈R) (hf:(bf,Obj.cells #[.string n] tf (0,0))∈R) (hb:(bb,Obj.cells #[v] tb (0,0))∈R)
  (hv:∀W s,Beside W s p R→DataIs W v bs∧∀k,v.ownBlock=some k→k≠s.p) :
  DoesP p R 60 #[.pointer (some ⟨bd,0,none⟩),.pointer (some ⟨bf,0,none⟩),.pointer (some ⟨bb,0,none⟩)] (fun a=>appendP a n bs):=by
 intro W s hB
 have cd:=hB.cell hd
 have cf:=hB.cell hf
 have cb:=hB.cell hb
 obtain ⟨h1,h2⟩:=hv W s hB
 have HC:=hid (append_p hB.ins n h1 h2)
 rw [hB.pp] at HC
 obtain ⟨g,c,e,-⟩:=h1.bat
 obtain ⟨l,hl⟩:∃l,l=bs.length:=⟨_,rfl⟩
 rw [←hl] at e
 subst e
 clear hB hd hf hb hv h1 h2 hl
 go_enter Tryz.func60,Tryz.ntmps60
 go_wp2_with fail
 refine HC.out.mono ?_
 rintro e W' ⟨rfl,h⟩
 have H:=hid h
 clear h cd cf cb
 go_wp2
 go_ret
 exact ⟨rfl,H.out⟩
theorem swap4_does {R:List (Nat×Obj)} (hd:(bd,Obj.cells #[.pointer (some ⟨p,0,none⟩)] td (0,0))∈R) (hf:(bf,Obj.cells #[.string n] tf (0,0))∈R) :
  DoesP p R 61 #[.pointer (some ⟨bd,0,none⟩),.pointer (some ⟨bf,0,none⟩)] (fun a=>syncP a n):=by
 intro W s hB
 have cd:=hB.cell hd
 have cf:=hB.cell hf
 have HC:=hid (sync_p hB.ins n)
 rw [hB.pp] at HC
 clear hB hd hf
 go_enter Tryz.func61,Tryz.ntmps61
 go_wp2_with fail
 refine HC.out.mono ?_
 rintro e W' ⟨rfl,h⟩
 have H:=hid h
 clear h cd cf
 go_wp2
 go_ret
 exact ⟨rfl,H.out⟩
theorem swap5_does {R:List (Nat×Obj)} (hd:(bd,Obj.cells #[.pointer (some ⟨p,0,none⟩)] td (0,0))∈R) (hf:(bf,Obj.cells #[.string n] tf (0,0))∈R) (hp:(bp,Obj.cells #[.string pre] tp (0,0))∈R) (hl:pre.size≤140737488355328) :
  DoesP p R 63 #[.pointer (some ⟨bd,0,none⟩),.pointer (some ⟨bf,0,none⟩),.pointer (some ⟨bp,0,none⟩)] (fun a=>renameP a n (pre++nameB)):=by
 intro W s hB
 have cd:=hB.cell hd
 have cf:=hB.cell hf
 have cp:=hB.cell hp
 have hp1:¬(9223372036854775807<pre.size+8):=by omega
 have HC:=hid (rename_p hB.ins n (pre++nameB))
 rw [hB.pp] at HC
 clear hB hd hf hp
 go_enter Tryz.func63,Tryz.ntmps63
 go_wp2_with fail
 refine HC.out.mono ?_
 rintro e W' ⟨rfl,h⟩
 have H:=hid h
 clear h cd cf cp
 go_wp2
 go_ret
 exact ⟨rfl,H.out⟩
theorem swap6_does {R:List (Nat×Obj)} (hd:(bd,Obj.cells #[.pointer (some ⟨p,0,none⟩)] td (0,0))∈R) (hf:(bf,Obj.cells #[.string n] tf (0,0))∈R) :
  DoesP p R 66 #[.pointer (some ⟨bd,0,none⟩),.pointer (some ⟨bf,0,none⟩)] (fun a=>deleteP a n):=by
 intro W s hB
 have cd:=hB.cell hd
 have cf:=hB.cell hf
 have HC:=hid (delete_p hB.ins n)
 rw [hB.pp] at HC
 clear hB hd hf
 go_enter Tryz.func66,Tryz.ntmps66
 go_wp2_with fail
 refine HC.out.mono ?_
 rintro e W' ⟨rfl,h⟩
 have H:=hid h
 clear h cd cf
 go_wp2
 go_ret
 exact ⟨rfl,H.out⟩
theorem swap1_any {W:World} {s:DS} {be:Nat} {k:Int} {R:List (Nat×Obj)} (u:FrameMode) (hB:Beside W s p R) (he:W.cell? ⟨be,0,none⟩=some (.int .i64 k)) (hd:(bd,Obj.cells #[.pointer (some ⟨p,0,none⟩)] td (0,0))∈R) (hf:(bf,Obj.cells #[.string n] tf (0,0))∈R) :
  CallsD Tryz.prog 58 #[.pointer (some ⟨be,0,none⟩),.pointer (some ⟨bd,0,none⟩),.pointer (some ⟨bf,0,none⟩)] u W fun e u' W'=>u'=u∧e=.returned (.tuple #[])∧
   ∃s2,Step W W' s s2∧s2.abs=if k=4 then (deleteP s.abs n).2 else s.abs:=by
 have cd:=hB.cell hd
 have cf:=hB.cell hf
 have HC:=hid (delete_p hB.ins n)
 rw [hB.pp] at HC
 have HS:=hid hB.ins
 clear hB hd hf
 by_cases h4:k=4
 ·subst h4
  go_enter_d Tryz.func58,Tryz.ntmps58
  go_wp2_with fail
  refine HC.out.mono ?_
  rintro e W' ⟨rfl,h⟩
  have H:=hid h
  clear h cd cf he
  go_wp2
  go_end0
  exact ⟨rfl,by obtain ⟨s2,h1,h2⟩:=H.out;exact ⟨s2,h1,by first|exact h2|(rw [h2,if_pos rfl])⟩⟩
 ·have hk:(k==4)=false:=by simpa using h4
  have H4:=hid h4
  clear h4
  go_enter_d Tryz.func58,Tryz.ntmps58
  go_wp2
  go_end0
  exact ⟨rfl,s,Step.refl HS.out,by first|rfl|(rw [if_neg H4.out])⟩
end
end Go.Proofs.YtgaidmohdhaonaaGreatDoor
