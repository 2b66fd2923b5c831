/-
  Package stratalaw4, walked: num, name, act, made.
  Package stratalaw4, walked: same, begins, find, made.
  What a Crash leaves, file by file (plain lists; no program in sight); a disk of the law's own; a list of acts that came in.
-/
import Derived.Test.YtgaidmohdhaonaaGreatDoorGE
import Derived.Deep.RegionHeld3
import Derived.Laws.ResultCell
import Derived.Handy
import Derived.Deep.AppendLies
import Derived.Deep.DeepCutAuto
set_option linter.unusedVariables false
set_option linter.unusedSimpArgs false
set_option linter.unnecessarySimpa false
set_option linter.unusedSectionVars false
namespace Go.Proofs.YtgaidmohdhaonaaGreatDoor
open Go Go.RowKit
theorem BytesAt.upd {S:Nat→Prop} {w w':World} {v:Value} {bs:List UInt8} (h:BytesAt w v bs) (hu:Upd S w w') (hn:∀a l c,v=.slice (some a) l c→0<l→¬S a.block∧a.block<w.heap.size):BytesAt w' v bs:=by
 obtain ⟨ao,cap,rfl,h1,h2⟩:=h
 refine ⟨ao,cap,rfl,h1,fun a ha j u hu'=>?_⟩
 subst ha
 have h0l:0<bs.length:=by
  rcases Nat.eq_zero_or_pos bs.length with h|h
  ·rw [List.getElem?_eq_none (by simp;omega)] at hu';cases hu'
  ·exact h
 obtain ⟨n1,n2⟩:=hn a _ _ rfl h0l
 rw [←h2 a rfl j u hu']
 have hab:(a.add j).block=a.block:=by unfold Addr.add;split<;>rfl
 exact World.cell?_of_block (w:=w) (by rw [hab];exact hu.block a.block n2 n1)
theorem BytesAt.take {w:World} {bo:Option Addr} {cap:Nat} {bs:List UInt8} (h:BytesAt w (.slice bo bs.length cap) bs) {n:Nat} (hn:n≤bs.length) (c:Nat) (hc:bo=none→c=0) :
  BytesAt w (.slice bo n c) (bs.take n):=by
 obtain ⟨ao,cp,he,h1,h2⟩:=h
 injection he with e1 e2 e3
 subst e1 e3
 refine ⟨bo,c,by simp [Nat.min_eq_left hn],fun h=>?_,fun a ha j u hu=>h2 a ha j u ?_⟩
 ·obtain ⟨rfl,rfl⟩:=h1 h
  exact ⟨by simp,hc h⟩
 ·rw [List.map_take,List.getElem?_take] at hu
  split at hu
  ·exact hu
  ·cases hu
theorem flat_cells:∀(l:List FV) (k:Nat) (hk:k<l.length),(l.flatMap FV.cells)[k*3]? = some (.string l[k].name)∧(l.flatMap FV.cells)[k*3+1]? = some l[k].dv∧(l.flatMap FV.cells)[k*3+2]? = some (.int .i64 l[k].synced)
 | f :: l,0,_=>by simp [FV.cells]
 | f :: l,k+1,hk=>by
  have ih:=flat_cells l k (by simpa using hk)
  have e1:(k+1)*3=k*3+1+1+1:=by omega
  have e2:(k+1)*3+1=k*3+1+1+1+1:=by omega
  have e3:(k+1)*3+2=k*3+2+1+1+1:=by omega
  rw [e1,show k*3+1+1+1+2=k*3+2+1+1+1 from by omega]
  simpa [FV.cells] using ih
theorem FilesAt.shape {w:World} {base:Nat} {v:Value} {l:List FV} (h:FilesAt w base v l):∃ao cap,v=.slice ao l.length cap∧l.length≤cap∧cap≤maxLen∧
  ∀k (hk:k<l.length),∃g,ao=some ⟨g,0,none⟩∧base≤g∧g<w.heap.size∧w.cell? ⟨g,k*3,none⟩=some (.string l[k].name)∧w.cell? ⟨g,k*3+1,none⟩=some l[k].dv∧w.cell? ⟨g,k*3+2,none⟩=some (.int .i64 l[k].synced):=by
 obtain ⟨hl,h⟩:=h.row
 rcases h with ⟨rfl,h0⟩|⟨g,cap,cur,rfl,hb,hg,h2,h3,h4,h5⟩
 ·exact ⟨none,0,by rw [h0],by omega,by simp,fun k hk=>absurd hk (by omega)⟩
 ·refine ⟨some ⟨g,0,none⟩,cap,rfl,h2,h3,fun k hk=>⟨g,rfl,hb,lt_of_heap hg,?_⟩⟩
  obtain ⟨q0,q1,q2⟩:=flat_cells l k hk
  rw [←h5,List.getElem?_take,if_pos (by omega)] at q0 q1 q2
  refine ⟨?_,?_,?_⟩
  ·rw [cell_of_row w g _ cur _ _ hg,←Array.getElem?_toList];exact q0
  ·rw [cell_of_row w g _ cur _ _ hg,←Array.getElem?_toList];exact q1
  ·rw [cell_of_row w g _ cur _ _ hg,←Array.getElem?_toList];exact q2
theorem filterMap_cong {α β:Type} {f g:α→Option β} : ∀ {l:List α},(∀a∈l,f a=g a)→l.filterMap f=l.filterMap g
 | [],_=>rfl
 | a :: l,h=>by rw [List.filterMap_cons,List.filterMap_cons,h a (by simp),filterMap_cong (l:=l) (fun b hb=>h b (by simp [hb]))]
def findA (l:List FileA) (n:ByteArray):Option FileA:=l.find? (fun f=>f.name==n)
theorem fileAt_findA (s:DS) (n:ByteArray):(s.fileAt n).map FRec.abs=findA s.abs.files n:=by
 unfold findA DS.fileAt
 show _=(s.recs.map FRec.abs).find? _
 rw [List.find?_map]
 rfl
def crashOne (cuts:List Int) (f:FileA) (k:Nat):FileA×Nat:=
 if f.data.length≤f.synced then (f,k)
 else ({ f with synced:=f.synced+keepOf cuts k (f.data.length-f.synced),data:=f.data.take (f.synced+keepOf cuts k (f.data.length-f.synced)) },k+1)
def crashL (cuts:List Int):List FileA→Nat→List FileA×Nat
 | [],k=>([],k)
 | f :: t,k=>((crashOne cuts f k).1 :: (crashL cuts t (crashOne cuts f k).2).1,(crashL cuts t (crashOne cuts f k).2).2)
theorem findA_updA (l:List FileA) (n m:ByteArray) (g:FileA→FileA) (hg:∀f,(g f).name=f.name):findA (updA l n g) m=(findA l m).map (fun f=>if f.name=n then g f else f):=by
 unfold findA updA
 rw [List.find?_map]
 have e:((fun f:FileA=>f.name==m) ∘ fun f=>if f.name=n then g f else f)=fun f:FileA=>f.name==m:=by
  funext f
  simp only [Function.comp]
  split<;>simp [hg]
 rw [e]
theorem findA_name {l:List FileA} {n:ByteArray} {f:FileA} (h:findA l n=some f):f.name=n:=by
 have:=List.find?_some h
 simpa [beq_bytes] using this
theorem crashStep_other (cuts:List Int) (F:List FileA) (k:Nat) (n m:ByteArray) (h:m≠n):findA (crashStep cuts (F,k) n).1 m=findA F m:=by
 unfold crashStep
 cases hf:F.find? (fun f=>f.name==n) with
 | none=>rfl
 | some f=>
  simp only []
  split
  ·rfl
  ·simp only []
   refine (findA_updA F n m _ (by intro _;rfl)).trans ?_
   cases hm:findA F m with
   | none=>rfl
   | some x=>
    simp only [Option.map_some]
    rw [if_neg (by rw [findA_name hm];exact h)]
theorem crashStep_self (cuts:List Int) (F:List FileA) (k:Nat) (n:ByteArray) {f:FileA} (h:findA F n=some f):findA (crashStep cuts (F,k) n).1 n=some (crashOne cuts f k).1∧(crashStep cuts (F,k) n).2=(crashOne cuts f k).2:=by
 unfold crashStep crashOne
 have h':F.find? (fun f=>f.name==n)=some f:=h
 simp only [h']
 split
 ·exact ⟨h,rfl⟩
 ·refine ⟨?_,rfl⟩
  simp only []
  refine (findA_updA F n n _ (by intro _;rfl)).trans ?_
  rw [h]
  simp only [Option.map_some]
  rw [if_pos (findA_name h)]
theorem crashFold_other (cuts:List Int):∀(N:List ByteArray) (st:List FileA×Nat) (m:ByteArray),m∉N→findA (N.foldl (crashStep cuts) st).1 m=findA st.1 m
 | [],_,_,_=>rfl
 | n :: N,(F,k),m,h=>by
  simp only [List.mem_cons,not_or] at h
  rw [List.foldl_cons,crashFold_other cuts N _ m h.2,crashStep_other cuts F k n m h.1]
theorem crashFold (cuts:List Int):∀(N:List ByteArray) (F:List FileA) (k:Nat),N.Nodup→(∀n∈N,∃f,findA F n=some f)→
  N.filterMap (findA (N.foldl (crashStep cuts) (F,k)).1)=(crashL cuts (N.filterMap (findA F)) k).1∧(N.foldl (crashStep cuts) (F,k)).2=(crashL cuts (N.filterMap (findA F)) k).2
 | [],F,k,_,_=>⟨rfl,rfl⟩
 | n :: N,F,k,hnd,hall=>by
  obtain ⟨hn,hnd'⟩:=List.nodup_cons.1 hnd
  obtain ⟨f,hf⟩:=hall n (by simp)
  obtain ⟨c1,c2⟩:=crashStep_self cuts F k n hf
  have hoth:∀m∈N,findA (crashStep cuts (F,k) n).1 m=findA F m:=fun m hm=>crashStep_other cuts F k n m (fun e=>hn (e ▸ hm))
  have hrest:N.filterMap (findA (crashStep cuts (F,k) n).1)=N.filterMap (findA F):=filterMap_cong hoth
  obtain ⟨i1,i2⟩:=crashFold cuts N (crashStep cuts (F,k) n).1 (crashStep cuts (F,k) n).2 hnd' (fun m hm=>by
   obtain ⟨f',hf'⟩:=hall m (by simp [hm])
   exact ⟨f',by rw [hoth m hm,hf']⟩)
  rw [hrest,c2] at i1 i2
  rw [show ((crashStep cuts (F,k) n).1,(crashOne cuts f k).2)=crashStep cuts (F,k) n from by rw [←c2]] at i1 i2
  rw [List.foldl_cons]
  refine ⟨?_,?_⟩
  ·rw [List.filterMap_cons,crashFold_other cuts N _ n hn,c1,List.filterMap_cons,hf,i1]
   rfl
  ·rw [i2,List.filterMap_cons,hf]
   rfl
theorem crashStep_names (cuts:List Int) (st:List FileA×Nat) (n:ByteArray):(crashStep cuts st n).1.map (·.name)=st.1.map (·.name):=by
 unfold crashStep
 cases st.1.find? (fun f=>f.name==n) with
 | none=>rfl
 | some f=>
  simp only []
  split
  ·rfl
  ·simp only [updA,List.map_map]
   refine List.map_congr_left fun g _=>?_
   simp only [Function.comp]
   split<;>rfl
theorem crashFold_names (cuts:List Int):∀(N:List ByteArray) (st:List FileA×Nat),(N.foldl (crashStep cuts) st).1.map (·.name)=st.1.map (·.name)
 | [],_=>rfl
 | n :: N,st=>by rw [List.foldl_cons,crashFold_names cuts N,crashStep_names]
theorem fileList_findA (s:DS):fileList s=(sortNames (s.abs.files.map (·.name))).filterMap (findA s.abs.files):=by
 unfold fileList
 rw [show s.abs.files.map (·.name)=s.names from by simp [DS.abs,DS.names,FRec.abs]]
 exact filterMap_cong (fun n _=>fileAt_findA s n)
theorem abs_names (s:DS):s.abs.files.map (·.name)=s.names:=by simp [DS.abs,DS.names,FRec.abs]
theorem sort_nodup {l:List ByteArray} (h:l.Nodup):(sortNames l).Nodup:=(sortNames_perm l).nodup_iff.2 h
theorem crash_files {w:World} {s s2:DS} (hs:s.In w) {cuts:List Int} (h:s2.abs.files=(crashF cuts s.abs.files).1) :
  fileList s2=(crashL cuts (fileList s) 0).1∧(crashF cuts s.abs.files).2=(crashL cuts (fileList s) 0).2:=by
 rw [fileList_findA s2,h,fileList_findA s]
 unfold crashF
 rw [crashFold_names]
 refine crashFold cuts _ s.abs.files 0 (sort_nodup (by rw [abs_names];exact hs.names)) (fun n hn=>?_)
 have hm:n∈s.names:=by rw [←abs_names];exact (sortNames_perm _).subset hn
 obtain ⟨r,hr⟩:=fileAt_of_name hm
 exact ⟨r.abs,by rw [←fileAt_findA,hr];rfl⟩
theorem fileList_names {w:World} {s:DS} (hs:s.In w):(fileList s).map (·.name)=sortNames s.names:=by
 rw [fileList_findA,abs_names]
 have hall:∀n∈sortNames s.names,∃f,findA s.abs.files n=some f∧f.name=n:=fun n hn=>by
  obtain ⟨r,hr⟩:=fileAt_of_name ((sortNames_perm _).subset hn)
  have:findA s.abs.files n=some r.abs:=by rw [←fileAt_findA,hr];rfl
  exact ⟨r.abs,this,findA_name this⟩
 generalize sortNames s.names=N at hall
 induction N with
 | nil=>rfl
 | cons n N ih=>
  obtain ⟨f,hf,hn⟩:=hall n (by simp)
  rw [List.filterMap_cons,hf]
  simp only [List.map_cons,hn]
  rw [ih (fun m hm=>hall m (by simp [hm]))]
theorem crashL_length (cuts:List Int):∀(l:List FileA) (k:Nat),(crashL cuts l k).1.length=l.length
 | [],_=>rfl
 | f :: t,k=>by simp [crashL,crashL_length cuts t]
structure On (w0 w:World) (p:Nat) (s:DS):Prop where
 ins:s.In w
 p:s.p=p
 low:∀k∈s.blocks,w0.heap.size≤k
 upd:Upd (fun _=>False) w0 w
theorem map_abs_ne {l1 l2:List FV} {k:Nat} (h1:k<l1.length) (h2:k<l2.length) (h:l1[k].abs≠l2[k].abs):l1.map FV.abs≠l2.map FV.abs:=by
 intro e
 have:=congrArg (fun l=>l[k]?) e
 simp only [List.getElem?_map,List.getElem?_eq_getElem h1,List.getElem?_eq_getElem h2,Option.map_some,Option.some.injEq] at this
 exact h this
theorem map_abs_eq {l1 l2:List FV} (hl:l1.length=l2.length) (h:∀j (h1:j<l1.length) (h2:j<l2.length),l1[j].abs=l2[j].abs):l1.map FV.abs=l2.map FV.abs:=by
 apply List.ext_getElem (by simp [hl])
 intro i h1 h2
 simp only [List.getElem_map]
 exact h i (by simpa using h1) (by simpa using h2)
structure Two (w0 w:World) (pd pc:Nat) (sd sc:DS):Prop where
 od:On w0 w pd sd
 oc:On w0 w pc sc
 ap:∀k∈sd.blocks,k∉sc.blocks
def ownFiles (v:Value) (l:List FV) (k:Nat):Prop:=v.ownBlock=some k∨k∈fvBlocks l
theorem FilesAt.keep {S:Nat→Prop} {w w':World} {base:Nat} {v:Value} {l:List FV} (h:FilesAt w base v l) (hu:Upd S w w') (hn:∀k,ownFiles v l k→¬S k):FilesAt w' base v l:=
 ⟨owns_upd h.row hu (fun k hk=>hn k (.inl hk)),fun f hf=>(h.data f hf).upd hu (fun k hk=>hn k (.inr (mem_fvBlocks.2 ⟨f,hf,hk⟩))),h.low,h.nodup⟩
theorem FilesAt.own_lt {w:World} {base:Nat} {v:Value} {l:List FV} (h:FilesAt w base v l) {k:Nat} (hk:ownFiles v l k):k<w.heap.size:=
 hk.elim (fun h1=>(h.row.lt k h1).2) (fun h1=>by obtain ⟨f,hf,hb⟩:=mem_fvBlocks.1 h1;exact (h.data f hf).lt k hb)
theorem DS.In.joined {w w':World} {s:DS} (h:s.In w) {r:FRec} (hn:s.fileAt r.name=none) (hok:nameOk r.name.data.toList=true) (hc:s.recs.length<256) (hb:w.heap.size≤r.blk)
  (hd:∀k,r.dv.ownBlock=some k→w.heap.size≤k∧k≠r.blk) (hroom:s.used+r.data.length≤s.cap) (hsy:r.synced≤r.data.length) (hu:Upd (fun k=>k=s.p∨k=s.m) w w')
  (htop:w'.heap[s.p]? = some (.cells ({ s with recs:=s.recs ++ [r] } : DS).cells 122 (0,0))) (hm:MapIs w' s.m (put s.entries r.name (.pointer (some ⟨r.blk,0,none⟩))))
  (hf:w'.heap[r.blk]? = some (.cells r.cells 155 (0,0))) (hdv:DataIs w' r.dv r.data) :
  Step w w' s { s with recs:=s.recs ++ [r] }:=by
 have hpm:s.p≠s.m:=h.pm
 have hbl:({ s with recs:=s.recs ++ [r] } : DS).blocks=s.blocks++r.blocks:=by
  simp [DS.blocks,recBlocks_append,recBlocks]
 have hrb:∀k∈r.blocks,w.heap.size≤k:=by
  intro k hk
  simp only [FRec.blocks,List.mem_cons,Option.mem_toList] at hk
  rcases hk with rfl|hk
  ·exact hb
  ·exact (hd k hk).1
 have hrn:r.blocks.Nodup:=by
  unfold FRec.blocks
  cases e:r.dv.ownBlock with
  | none=>simp
  | some k=>
   have:=(hd k e).2
   simp only [Option.toList_some,List.nodup_cons,List.mem_singleton,List.not_mem_nil,not_false_eq_true,List.nodup_nil,and_true]
   exact fun e=>this e.symm
 refine ⟨⟨htop,?_,?_,?_,?_,?_,?_,h.cap,h.armed,trivial⟩,rfl,hu.mono ?_,?_⟩
 ·rw [put_new _ _ _ (look_none_of hn)] at hm
  have e:({ s with recs:=s.recs ++ [r] } : DS).entries=s.entries ++ [(r.name,.pointer (some ⟨r.blk,0,none⟩))]:=by simp [DS.entries,FRec.entry]
  rw [e];exact hm
 ·intro x hx
  simp only [List.mem_append,List.mem_singleton] at hx
  rcases hx with hx|rfl
  ·refine (h.files x hx).of_blocks (fun k hk=>?_)
   have hk':k∈recBlocks s.recs:=mem_recBlocks.2 ⟨x,hx,hk⟩
   exact hu.block k (h.lt k (by simp [DS.blocks,hk'])) (fun e=>e.elim (h.p_ne_blk hx hk) (h.m_ne_blk hx hk))
  ·exact ⟨hf,hdv,hsy,hok⟩
 ·simp only [List.map_append,List.map_cons,List.map_nil]
  rw [List.nodup_append]
  refine ⟨h.names,by simp,?_⟩
  intro x hx y hy
  simp only [List.mem_singleton] at hy
  subst hy
  obtain ⟨z,hz,rfl⟩:=List.mem_map.1 hx
  exact fileAt_none hn z hz
 ·rw [hbl,List.nodup_append]
  refine ⟨h.blocks,hrn,?_⟩
  intro x hx y hy e
  have:=h.lt x hx
  have:=hrb y hy
  omega
 ·simp;omega
 ·simpa [DS.used,usedOf] using hroom
 ·intro k _ e
  rcases e with rfl|rfl<;>simp [DS.blocks]
 ·intro k hk
  rw [hbl] at hk
  simp only [List.mem_append] at hk
  rcases hk with hk|hk
  ·exact .inl hk
  ·exact .inr (hrb k hk)
theorem nameA_inj:∀ {l:List FileA},(l.map (·.name)).Nodup→∀ {x y:FileA},x∈l→y∈l→x.name=y.name→x=y
 | [],_,_,_,hx,_,_=>by cases hx
 | a :: t,hnd,x,y,hx,hy,h=>by
  simp only [List.map_cons,List.nodup_cons,List.mem_map,not_exists,not_and] at hnd
  rcases List.mem_cons.1 hx with hx|hx
  ·rcases List.mem_cons.1 hy with hy|hy
   ·rw [hx,hy]
   ·exact absurd (by rw [←h,hx]) (hnd.1 y hy)
  ·rcases List.mem_cons.1 hy with hy|hy
   ·exact absurd (by rw [h,hy]) (hnd.1 x hx)
   ·exact nameA_inj hnd.2 hx hy h
theorem findA_mem {l:List FileA} {n:ByteArray} {f:FileA} (h:findA l n=some f):f∈l∧f.name=n:=⟨List.mem_of_find?_eq_some h,findA_name h⟩
theorem findA_of_mem {l:List FileA} (hnd:(l.map (·.name)).Nodup) {f:FileA} (h:f∈l):findA l f.name=some f:=by
 cases hc:findA l f.name with
 | none=>
  unfold findA at hc
  rw [List.find?_eq_none] at hc
  exact absurd (by simp [beq_bytes]) (hc f h)
 | some g=>
  obtain ⟨hg,hn⟩:=findA_mem hc
  rw [nameA_inj hnd hg h hn]
theorem findA_perm {a b:List FileA} (hp:a.Perm b) (hnd:(a.map (·.name)).Nodup) (n:ByteArray):findA a n=findA b n:=by
 have hnb:(b.map (·.name)).Nodup:=(hp.map _).nodup_iff.1 hnd
 cases hc:findA a n with
 | some f=>
  obtain ⟨hm,rfl⟩:=findA_mem hc
  rw [findA_of_mem hnb (hp.mem_iff.1 hm)]
 | none=>
  cases hd:findA b n with
  | none=>rfl
  | some g=>
   obtain ⟨hm,rfl⟩:=findA_mem hd
   rw [findA_of_mem hnd (hp.mem_iff.2 hm)] at hc
   cases hc
theorem sum_perm {a b:List FileA} (hp:a.Perm b):(a.map (·.data.length)).sum=(b.map (·.data.length)).sum:=by
 induction hp with
 | nil=>rfl
 | cons x h ih=>simp [ih]
 | swap x y l=>simp;omega
 | trans h1 h2 i1 i2=>exact i1.trans i2
theorem names_nodup {w:World} {s:DS} (hs:s.In w):(s.abs.files.map (·.name)).Nodup:=by rw [abs_names];exact hs.names
theorem filterMap_findA {l:List FileA} (hnd:(l.map (·.name)).Nodup):∀(t:List FileA),(∀f∈t,f∈l)→(t.map (·.name)).filterMap (findA l)=t
 | [],_=>rfl
 | a :: t,h=>by
  rw [List.map_cons,List.filterMap_cons,findA_of_mem hnd (h a (by simp))]
  simp only
  rw [filterMap_findA hnd t (fun f hf=>h f (by simp [hf]))]
theorem fileList_files_perm {w:World} {s:DS} (hs:s.In w):(fileList s).Perm s.abs.files:=by
 rw [fileList_findA]
 have h:=(sortNames_perm (s.abs.files.map (·.name))).filterMap (findA s.abs.files)
 rw [filterMap_findA (names_nodup hs) s.abs.files (fun f hf=>hf)] at h
 exact h
end Go.Proofs.YtgaidmohdhaonaaGreatDoor
