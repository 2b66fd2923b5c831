/-
  Package disk, walked: List, Arm, Counts, New.
  Package disk, walked: Files.
-/
import Derived.Test.YtgaidmohdhaonaaGreatDoorGC
import Derived.Deep.RegionHeld3
import Derived.Deep.AppendLies
set_option linter.unusedVariables false
set_option linter.unusedSimpArgs false
set_option linter.unnecessarySimpa false
set_option linter.unusedSectionVars false
set_option maxRecDepth 100000
set_option maxHeartbeats 6400000
namespace Go.Proofs.YtgaidmohdhaonaaGreatDoor
open Go Go.RowKit
theorem owns_shape {w:World} {base:Nat} {e:TypeId} {n:Nat} {v:Value} {xs:List Value} (h:w.ownsRow base e 1 v n xs):∃ao cap,v=.slice ao n cap∧n=xs.length∧
  ∀k (hk:k<n),∃g,ao=some ⟨g,0,none⟩∧base≤g∧g<w.heap.size∧∀j (hj:j<xs.length),w.cell? ⟨g,j,none⟩=some xs[j]:=by
 obtain ⟨hl,h⟩:=h
 have hn:n=xs.length:=by simpa using hl.symm
 rcases h with ⟨rfl,rfl⟩|⟨g,cap,cur,rfl,hb,hg,h2,h3,h4,h5⟩
 ·exact ⟨none,0,rfl,hn,fun k hk=>absurd hk (by omega)⟩
 ·refine ⟨some ⟨g,0,none⟩,cap,rfl,hn,fun k hk=>⟨g,rfl,hb,lt_of_heap hg,fun j hj=>?_⟩⟩
  rw [cell_of_row w g j cur _ _ hg,←Array.getElem?_toList]
  have:=congrArg (fun l=>l[j]?) h5
  simp only [List.getElem?_take,Nat.mul_one,List.getElem?_eq_getElem hj] at this
  rw [if_pos (by omega)] at this
  exact this
def hasPre (p:ByteArray) (s:ByteArray):Bool:=Lib.hasPrefix s.data.toList p.data.toList
def listNames (s:DS) (p:ByteArray):List ByteArray:=(sortNames s.names).filter (hasPre p)
theorem filter_take_step (f:ByteArray→Bool) (l:List ByteArray) (k:Nat) (h:k<l.length):(l.take (k+1)).filter f=(l.take k).filter f++(if f l[k] then [l[k]] else []):=by
 rw [List.take_succ_eq_append_getElem h,List.filter_append]
 congr 1
 by_cases hf:f l[k]=true<;>simp [List.filter_cons,hf]
theorem list_any {w:World} {s:DS} (hs:s.In w) (p:ByteArray) :
  Calls Tryz.prog 36 #[.pointer (some ⟨s.p,0,none⟩),.string p] w fun e w'=>
   ∃v n,e=.returned v∧w'.ownsRow w.heap.size 9 1 v n ((listNames s p).map Value.string)∧Upd (fun _=>False) w w':=by
 have HN:=hid (names_any hs)
 have hcount:s.names.length≤256:=by simpa [DS.names] using hs.count
 obtain ⟨i0,hi,hz0,hz1,hz2⟩:=info_parts Tryz.info9'
 have HS:=hid hs
 clear hs
 go_enter Tryz.func36,Tryz.ntmps36
 go_wp2_with fail
 refine HN.out.mono ?_
 rintro e w1 ⟨v,n,rfl,hown,hu⟩
 obtain ⟨ao,cap,rfl,hn,hcells⟩:=owns_shape hown
 have hlen:n=(sortNames s.names).length:=by simpa using hn
 have hlen2:(sortNames s.names).length=s.names.length:=(sortNames_perm s.names).length_eq
 have hn256:n≤256:=by omega
 have HU:=hid hu;have HC:=hid hcells;have HL:=hid hlen
 clear hown hu hcells hlen hlen2 hn hcount
 go_wp2
 go_loopw [5,11] (fun lv i wr=>∃k:Nat,k≤n∧i=.int .i64 k∧(∃m,m≤k∧wr.ownsRow w1.heap.size 9 1 lv m ((((sortNames s.names).take k).filter (hasPre p)).map Value.string))∧Upd (fun _=>False) w1 wr)
  (fun _ i _=>n-(intOf i).toNat)
 case atStart=>exact ⟨0,Nat.zero_le _,rfl,⟨0,Nat.le_refl _,World.ownsRow_nil _ _ _ _⟩,Upd.refl _ _⟩
 case round=>
  obtain ⟨k,hk,rfl,⟨m,hm,hown⟩,hup⟩:=hrel
  have Ka:=hid hup
  clear hup
  by_cases hlt:k<n
  ·obtain ⟨g,rfl,hg1,hg2,hg3⟩:=HC.out k hlt
   have hkl:k<(sortNames s.names).length:=by have:=HL.out;omega
   have hcell:wr.cell? ⟨g,k,none⟩=some (.string (sortNames s.names)[k]):=by
    rw [World.cell?_of_block (Ka.out.block g hg2 (fun h=>h))]
    have:=hg3 k (by simpa using hkl)
    simpa using this
   obtain ⟨x,hx⟩:∃x,x=(sortNames s.names)[k]:=⟨_,rfl⟩
   rw [←hx] at hcell
   have hstep:=filter_take_step (hasPre p) (sortNames s.names) k hkl
   rw [←hx] at hstep
   have Kc:=hid hstep
   have hws:=Ka.out.size
   have hws0:=HU.out.size
   clear hstep hg3 hx
   cases hpf:Lib.hasPrefix x.data.toList p.data.toList
   ·have hpf':hasPre p x=false:=hpf
    have Kb:=hid hpf';clear hpf'
    have HO:=hid hown;clear hown
    go_wp2_with (go_at_call 94;refine (Tryz.strings_HasPrefix _ _ _).mono ?_;rintro e w' ⟨rfl,rfl⟩)
    go_roundw
    case rel=>exact ⟨k+1,by omega,by go_num,⟨m,by omega,by rw [Kc.out,Kb.out];simpa using HO.out⟩,Ka.out⟩
    case measure=>simp [intOf];omega
   ·have hpf':hasPre p x=true:=hpf
    have Kb:=hid hpf';clear hpf'
    go_wp2_with (first
     | (go_at_call 94;refine (Tryz.strings_HasPrefix _ _ _).mono ?_;rintro e w' ⟨rfl,rfl⟩)
     | (at_builtin;refine wpList_append_own _ rfl _ _ 73 rfl w1.heap.size 9 i0 (.string ByteArray.empty) 1 16 Tryz.underlying73 hi hz0 hz1 hz2 rfl (by decide) _ _ _ rfl (hown.alloc _) ⟨_,0,none⟩ 1 1 [.string x] rfl rfl ?c1 ?c2 ?c3 ?c4 ?c5 ?_))
    case c1=>
     intro j u hj
     match j,hj with
     | 0,hj=>simp at hj;subst hj;simp [Addr.add]
    case c2=>intro u hu;simp at hu;subst hu;rfl
    case c3=>unfold maxLen;omega
    case c4=>omega
    case c5=>simp;omega
    intro v' w3 hown3 hg3 _
    have hup3:Upd (fun _=>False) w1 w3:=(Ka.out.alloc _).grown hg3 (fun b hb hlt=>by have:=(hown.lt b hb).1;omega)
    have hown4:w3.ownsRow w1.heap.size 9 1 v' (m+1) ((((sortNames s.names).take (k+1)).filter (hasPre p)).map Value.string):=by
     rw [Kc.out,Kb.out];simpa using hown3
    have H1:=hid hup3;have H2:=hid hown4
    clear hup3 hown4 hown3 hg3 hown
    go_wp2
    go_roundw
    case rel=>exact ⟨k+1,by omega,by go_num,⟨m+1,by omega,H2.out⟩,H1.out⟩
    case measure=>simp [intOf];omega
  ·obtain rfl:k=n:=by omega
   have hfin:((sortNames s.names).take k).filter (hasPre p)=listNames s p:=by rw [HL.out,List.take_length];rfl
   rw [hfin] at hown
   have H1:=hid hown
   clear hown hfin
   go_wp2
   go_ret
   exact ⟨_,m,rfl,owns_lower H1.out HU.out.size,HU.out.trans Ka.out (fun _ _ h=>h)⟩
theorem arm_any {w:World} {s:DS} (hs:s.In w) (n:Int) (hn:n≤9223372036854775807) :
  Calls Tryz.prog 38 #[.pointer (some ⟨s.p,0,none⟩),.int .i64 n] w fun e w'=>e=.returned (.tuple #[])∧Step w w' s (if s.down then s else { s with armed:=max n 0 }):=by
 have cd:=hs.c_down
 have c4:=hs.c_armed
 have f4:=hs.free 4
 have HS:=hid hs
 clear hs
 by_cases hd:s.down=false
 ·rw [hd] at cd
  rw [if_neg (by simp [hd])]
  have hst:Step w (w.setCell ⟨s.p,4,none⟩ (.int .i64 (max n 0))) s { s with armed:=max n 0 }:=
   HS.out.top_turned (Upd.cell_only _ _ _ _) rfl rfl rfl rfl (heap_setCell_at _ _ _ _ _ _ HS.out.top) ⟨by show 0≤max n 0;omega,by show max n 0≤_;omega⟩
  have H1:=hid hst
  clear hst hd
  go_enter Tryz.func38,Tryz.ntmps38
  go_wp2
  all_goals (go_end0;exact ⟨rfl,H1.out⟩)
 ·have hd':s.down=true:=by simpa using hd
  rw [hd'] at cd
  rw [if_pos hd']
  clear hd hd'
  go_enter Tryz.func38,Tryz.ntmps38
  go_wp2
  go_end0
  exact ⟨rfl,Step.refl HS.out⟩
def newA (cap:Nat):DiskA:=⟨cap,[],false,0,⟨0,0,0,0,0,0⟩⟩
theorem new_yes (w:World) (n:Nat) (hn:n≤67108864) :
  Calls Tryz.prog 12 #[.int .i64 n] w fun e w'=>∃s:DS,e=.returned (.tuple #[.pointer (some ⟨s.p,0,none⟩),.int .i64 0])∧s.In w'∧s.abs=newA n∧(∀k∈s.blocks,w.heap.size≤k)∧Upd (fun _=>False) w w':=by
 have hmm:=@run_makeMap Tryz.prog
 have h1:¬((n:Int)<0):=by omega
 have h2:¬(67108864<(n:Int)):=by omega
 go_enter Tryz.func12,Tryz.ntmps12
 go_wp2
 go_ret2
 refine ⟨⟨w.heap.size+1,w.heap.size,n,[],false,0,⟨0,0,0,0,0,0⟩⟩,rfl,⟨?_,?_,by simp,by simp,by simp [DS.blocks,recBlocks],by simp,by simp [DS.used,usedOf],hn,by simp,trivial⟩,rfl,?_,((Upd.refl _ _).alloc _).alloc _⟩
 ·have h:=heap_alloc_new (w.alloc (.map #[] 0)) (.cells #[.int .i64 n,.int .i64 0,.map (some w.heap.size),.bool false,.int .i64 0,.int .i64 0,.int .i64 0,.int .i64 0,.int .i64 0,.int .i64 0,.int .i64 0] 122)
  rw [World.size_alloc] at h
  exact h
 ·exact (MapIs.made w).of_block (heap_alloc_past _ _ _ (by simp))
 ·intro k hk
  simp [DS.blocks,recBlocks] at hk
  omega
theorem clone_any {w:World} {v:Value} {bs:List UInt8} (hv:BytesAt w v bs) (hl:bs.length≤140737488355328) :
  Calls Tryz.prog 122 #[v] w fun e w'=>∃v',e=.returned v'∧DataIs w' v' bs∧(∀k,v'.ownBlock=some k→w.heap.size≤k)∧Below w.heap.size w w':=by
 obtain ⟨ao,cap,rfl,hn,hs⟩:=hv
 cases ao with
 | none=>
  obtain ⟨rfl,rfl⟩:=hn rfl
  refine (Tryz.bytes_Clone_nil _ _ _).mono ?_
  rintro e w' ⟨rfl,rfl⟩
  exact ⟨_,rfl,.inl ⟨rfl,rfl⟩,by simp [Value.ownBlock],Below.refl _ _⟩
 | some a=>
  refine (Tryz.bytes_Clone_at a bs.length cap (bs.map (fun b=>(b.toNat:Int))) w (by simp) hl ?_).mono ?_
  ·intro i hi
   have:=hs a rfl i (byteV bs[i]) (by rw [List.getElem?_map,List.getElem?_eq_getElem hi];rfl)
   rw [this,List.getD_eq_getElem?_getD,List.getElem?_map,List.getElem?_eq_getElem hi]
   rfl
  ·rintro e w' ⟨v',rfl,hown,-,hb⟩
   refine ⟨v',rfl,?_,fun k hk=>(hown.lt k hk).1,hb⟩
   rw [List.map_map] at hown
   exact DataIs.of_owns hown
structure FV where
 name:ByteArray
 dv:Value
 data:List UInt8
 synced:Nat
def FV.cells (f:FV):List Value:=[.string f.name,f.dv,.int .i64 f.synced]
def FV.abs (f:FV):FileA:=⟨f.name,f.data,f.synced⟩
def fvBlocks (l:List FV):List Nat:=l.flatMap (fun f=>f.dv.ownBlock.toList)
structure FilesAt (w:World) (base:Nat) (v:Value) (l:List FV):Prop where
 row:w.ownsRow base 185 3 v l.length (l.flatMap FV.cells)
 data:∀f∈l,DataIs w f.dv f.data
 low:∀k∈fvBlocks l,base≤k
 nodup:(v.ownBlock.toList++fvBlocks l).Nodup
theorem Tryz.infoFile:(Tryz.prog.info? 185).map (fun i=>(i.zero,i.size,i.bytes))=some (some (.agg #[.string ByteArray.empty,.slice none 0 0,.int .i64 0]),3,48):=by kernel_rfl
theorem DataIs.upd {S:Nat→Prop} {w w':World} {v:Value} {bs:List UInt8} (h:DataIs w v bs) (hu:Upd S w w') (hn:∀k,v.ownBlock=some k→¬S k):DataIs w' v bs:=
 h.of_block (fun k hk=>hu.block k (h.lt k hk) (hn k hk))
theorem mem_fvBlocks {l:List FV} {k:Nat} : k∈fvBlocks l↔∃f∈l,f.dv.ownBlock=some k:=by simp [fvBlocks]
theorem FilesAt.snoc {w w1 w2:World} {base:Nat} {v v' dv':Value} {l:List FV} {nm:ByteArray} {bs:List UInt8} {sy:Nat} (h:FilesAt w base v l) (hb:base≤w.heap.size) (hbel:Below w.heap.size w w1)
  (hd:DataIs w1 dv' bs) (hdo:∀k,dv'.ownBlock=some k→w.heap.size≤k) (hg:(w1.alloc (.cells #[.string nm,dv',.int .i64 sy] 185)).grownBy w2 v.ownBlock)
  (hown:w2.ownsRow base 185 3 v' (l.length+1) (l.flatMap FV.cells ++ [.string nm,dv',.int .i64 sy])) (hat:∀k,v'.ownBlock=some k→v.ownBlock=some k∨w1.heap.size≤k) :
  FilesAt w2 base v' (l ++ [⟨nm,dv',bs,sy⟩]):=by
 have hup:Upd (fun k=>v.ownBlock=some k) w w2:=((Upd.of_below hbel).alloc _).grown hg (fun k hk _=>hk)
 have hup1:Upd (fun k=>v.ownBlock=some k) w1 w2:=((Upd.refl _ _).alloc _).grown hg (fun k hk _=>hk)
 have hvlt:∀k,v.ownBlock=some k→k<w.heap.size:=fun k hk=>(h.row.lt k hk).2
 have hnd:=h.nodup
 rw [List.nodup_append] at hnd
 have hsz:=hbel.size
 have hfl:∀k∈fvBlocks l,k<w.heap.size:=by
  intro k hk
  obtain ⟨f,hf,hk⟩:=mem_fvBlocks.1 hk
  exact (h.data f hf).lt k hk
 refine ⟨by simpa [FV.cells] using hown,?_,?_,?_⟩
 ·intro f hf
  simp only [List.mem_append,List.mem_singleton] at hf
  rcases hf with hf|rfl
  ·exact (h.data f hf).upd hup (fun k hk e=>hnd.2.2 k (by simp [e]) k (mem_fvBlocks.2 ⟨f,hf,hk⟩) rfl)
  ·exact hd.upd hup1 (fun k hk e=>by have:=hdo k hk;have:=hvlt k e;omega)
 ·intro k hk
  obtain ⟨f,hf,hk⟩:=mem_fvBlocks.1 hk
  simp only [List.mem_append,List.mem_singleton] at hf
  rcases hf with hf|rfl
  ·exact h.low k (mem_fvBlocks.2 ⟨f,hf,hk⟩)
  ·have:=hdo k hk;omega
 ·have e:fvBlocks (l ++ [⟨nm,dv',bs,sy⟩])=fvBlocks l++dv'.ownBlock.toList:=by simp [fvBlocks]
  rw [e,List.nodup_append]
  refine ⟨by cases v'.ownBlock<;>simp,?_,?_⟩
  ·rw [List.nodup_append]
   refine ⟨hnd.2.1,by cases dv'.ownBlock<;>simp,?_⟩
   intro a ha b hb e
   have hb':dv'.ownBlock=some b:=by simpa using hb
   have:=hdo b hb';have:=hfl a ha;omega
  ·intro a ha b hb e
   subst e
   have ha':v'.ownBlock=some a:=by simpa using ha
   simp only [List.mem_append,Option.mem_toList] at hb
   rcases hat a ha' with hv|hv
   ·rcases hb with hb|hb
    ·exact hnd.2.2 a (by simp [hv]) a hb rfl
    ·have hb':dv'.ownBlock=some a:=hb
     have:=hdo a hb';have:=hvlt a hv;omega
   ·rcases hb with hb|hb
    ·have:=hfl a hb;omega
    ·have hb':dv'.ownBlock=some a:=hb
     have:=hd.lt a hb';omega
theorem FilesAt.upd {S:Nat→Prop} {w w':World} {base:Nat} {v:Value} {l:List FV} (h:FilesAt w base v l) (hu:Upd S w w') (hn:∀k,base≤k→¬S k):FilesAt w' base v l:=
 ⟨owns_upd h.row hu (fun k hk=>hn k (h.row.lt k hk).1),fun f hf=>(h.data f hf).upd hu (fun k hk=>hn k (h.low k (mem_fvBlocks.2 ⟨f,hf,hk⟩))),h.low,h.nodup⟩
theorem step_append_file {ops:Array Oper} {o:Oper} {a:Act} {K:Act→World→Prop} {Q:Exit→Act→World→Prop} {E:Prop}
  (hg:o.guard=none) (s x:Operand) (hop:o.op=Op.call { callee:=Callee.builtin Builtin.append,args:=#[s,x],argTypes:=#[111,111] })
  {w w2:World} {base:Nat} {v dv':Value} {l:List FV} {nm:ByteArray} {bs:List UInt8} {sy:Nat} (hs:a.eval s=v) (hx:a.eval x=.slice (some ⟨w2.heap.size,0,none⟩) 1 1)
  (hfa:FilesAt w base v l) (hb:base≤w.heap.size) (hbel:Below w.heap.size w w2) (hd:DataIs w2 dv' bs) (hdo:∀k,dv'.ownBlock=some k→w.heap.size≤k) (hlen:l.length≤1000000)
  (hK:∀v' w3,FilesAt w3 base v' (l ++ [⟨nm,dv',bs,sy⟩])→Upd (fun k=>v.ownBlock=some k) w w3→K (a.put o.dst v') w3) :
  if Region.wanted o (yielded ops a.tmps)=true then Oper.wp Tryz.prog o a (w2.alloc (.cells #[.string nm,dv',.int .i64 sy] 185)) K Q else E:=by
 obtain ⟨i0,hi,hz0,hz1,hz2⟩:=info_parts Tryz.infoFile
 obtain ⟨aoc,capc,hdv,-,-,-,-⟩:=hd.shape
 have hw2:=hbel.size
 refine step_append_lies _ hg s x 111 hop base 185 i0 _ 3 48 Tryz.underlying111 hi hz0 hz1 hz2 rfl (by omega) v l.length (l.flatMap FV.cells) hs ((owns_upd (S:=fun _=>False) hfa.row (Upd.of_below hbel) (fun _ _ h=>h)).alloc _)
  ⟨w2.heap.size,0,none⟩ 1 1 [.string nm,dv',.int .i64 sy] hx rfl (World.news_of_block (cs:=#[.string nm,dv',.int .i64 sy]) (t:=185) (fr:=(0,0)) (heap_alloc_new w2 _)) (by rw [hdv];simp [Value.oneCell'])
  (by omega) (by unfold maxLen;omega) (by omega) (by simp;omega) (w2.heap.size+1) (by simp) ?_
 intro gg capg w3 hown3 hgrow hat hlt3
 refine hK _ _ (hfa.snoc hb hbel hd hdo hgrow hown3 ?_) (((Upd.of_below hbel).alloc _).grown hgrow (fun k hk _=>hk))
 intro k hk
 simp only [Value.ownBlock,Option.some.injEq] at hk
 subst hk
 rcases hat with h|h
 ·exact .inl h
 ·right;omega
def fileList (s:DS):List FileA:=(sortNames s.names).filterMap (fun n=>(s.fileAt n).map FRec.abs)
theorem fileAt_of_name {s:DS} {n:ByteArray} (h:n∈s.names):∃r,s.fileAt n=some r:=by
 cases hf:s.fileAt n with
 | some r=>exact ⟨r,rfl⟩
 | none=>
  obtain ⟨r,hr,hn⟩:=List.mem_map.1 h
  exact absurd hn (fileAt_none hf r hr)
theorem filterMap_take_step {α β:Type} (f:α→Option β) (l:List α) (k:Nat) (h:k<l.length) {y:β} (hy:f l[k]=some y):(l.take (k+1)).filterMap f=(l.take k).filterMap f ++ [y]:=by
 rw [List.take_succ_eq_append_getElem h,List.filterMap_append]
 simp [hy]
theorem files_any {w : World} {s : DS} (hs : s.In w) :
    Calls Tryz.prog 53 #[.pointer (some ⟨s.p,0,none⟩)] w fun e w'=>
      ∃v l,e=.returned v∧FilesAt w' w.heap.size v l∧l.map FV.abs=fileList s∧Upd (fun _=>False) w w':=by
  have HN:=hid (names_any hs)
  have hcount:s.names.length≤256:=by simpa [DS.names] using hs.count
  obtain ⟨i0,hi,hz0,hz1,hz2⟩:=info_parts Tryz.infoFile
  have HS:=hid hs
  clear hs
  go_enter Tryz.func53,Tryz.ntmps53
  go_wp2_with fail
  refine HN.out.mono ?_
  rintro e w1 ⟨v,n,rfl,hown,hu⟩
  obtain ⟨ao,cap,rfl,hn,hcells⟩:=owns_shape hown
  have hlen:n=(sortNames s.names).length:=by simpa using hn
  have hlen2:(sortNames s.names).length=s.names.length:=(sortNames_perm s.names).length_eq
  have hn256:n≤256:=by omega
  have HU:=hid hu;have HC:=hid hcells;have HL:=hid hlen
  have Kc:=hid (HS.out.upd hu (fun _ _ h=>h))
  clear hown hu hcells hlen hlen2 hn hcount
  go_wp2
  go_loopw [3,10] (fun lv i wr=>∃k:Nat,k≤n∧i=.int .i64 k∧(∃l,l.length≤k∧FilesAt wr w1.heap.size lv l∧l.map FV.abs=((sortNames s.names).take k).filterMap (fun n=>(s.fileAt n).map FRec.abs))∧Upd (fun _=>False) w1 wr)
    (fun _ i _=>n-(intOf i).toNat)
  case atStart=>exact ⟨0,Nat.zero_le _,rfl,⟨[],Nat.le_refl _,⟨World.ownsRow_nil _ _ _ _,by simp,by simp [fvBlocks],by simp [fvBlocks,Value.ownBlock]⟩,rfl⟩,Upd.refl _ _⟩
  case round=>
    obtain ⟨k,hk,rfl,⟨l,hl,hfa,habs⟩,hup⟩:=hrel
    have Ka:=hid hup;have HA:=hid habs;have Kb:=hid hfa
    clear hup habs hfa
    by_cases hlt:k<n
    · obtain ⟨g,rfl,hg1,hg2,hg3⟩:=HC.out k hlt
      have hkl:k<(sortNames s.names).length:=by have:=HL.out;omega
      have hcell:wr.cell? ⟨g,k,none⟩=some (.string (sortNames s.names)[k]):=by
        rw [World.cell?_of_block (Ka.out.block g hg2 (fun h=>h))]
        have:=hg3 k (by simpa using hkl)
        simpa using this
      obtain ⟨x,hx⟩:∃x,x=(sortNames s.names)[k]:=⟨_,rfl⟩
      rw [←hx] at hcell
      have hxm:x∈s.names:=(sortNames_perm s.names).subset (hx ▸ List.getElem_mem hkl)
      obtain ⟨r,hfr⟩:=fileAt_of_name hxm
      obtain ⟨hrm,hrn⟩:=fileAt_mem hfr
      have hstep:=filterMap_take_step (fun n=>(s.fileAt n).map FRec.abs) (sortNames s.names) k hkl (y:=r.abs) (by rw [←hx,hfr];rfl)
      have Kd:=hid hstep
      have hsr:s.In wr:=Kc.out.upd Ka.out (fun _ _ h=>h)
      have cm:=hsr.c_map
      have hlk:=run_lookup_file hsr x
      unfold DS.ptrAt at hlk
      rw [hfr] at hlk
      simp only [] at hlk
      have hfi:=hsr.files r hrm
      have c0:=hfi.c_dv
      have c1:=hfi.c_synced
      have hby:=hfi.data.bytes
      obtain ⟨ao',cap',hdv,-,-,-,-⟩:=hfi.data.shape
      have hdl:=hsr.data_le hrm
      rw [hdv] at c0 hby
      have hrlt:r.blk<wr.heap.size:=lt_of_heap hfi.cells
      have hrlt1:r.blk<w1.heap.size:=lt_of_heap (Kc.out.files r hrm).cells
      have Ke:=hid hby;have Kg:=hid hsr
      have Kf:=hid (Kb.out.upd ((Upd.refl (fun _=>False) wr).drew) (fun _ _ h=>h))
      have hws3:w1.heap.size≤wr.drew.heap.size:=Ka.out.size
      have hws:=Ka.out.size
      have hws0:=HU.out.size
      clear hstep hg3 hx hxm hfr hfi hsr hby hdv
      go_wp2_with fail
      go_region_held3 (fun W=>W.cell? ⟨r.blk,0,none⟩=some (.slice ao' r.data.length cap')∧W.cell? ⟨r.blk,1,none⟩=some (.int .i64 r.synced))
        (first
          | go_keep
          | (go_split_ands
             refine ⟨?_, ?_⟩
             · (first | (rw [hbel.cell (p := ⟨r.blk, 0, none⟩) (by simpa using hrlt)]; assumption) | (rw [World.cell?_of_block (w := wr.drew) (hU3.block r.blk (by simpa using hrlt) (fun e => by have := (Kb.out.row.lt _ e).1; omega))]; assumption))
             · (first | (rw [hbel.cell (p := ⟨r.blk, 1, none⟩) (by simpa using hrlt)]; assumption) | (rw [World.cell?_of_block (w := wr.drew) (hU3.block r.blk (by simpa using hrlt) (fun e => by have := (Kb.out.row.lt _ e).1; omega))]; assumption))))
        (first
          | (go_at_call 122;refine (clone_any (w:=wr.drew) Ke.out (by omega)).mono ?_;rintro e w2 ⟨vc,rfl,hd,hdo,hbel⟩;obtain ⟨aoc,capc,hsh,-,-,-,-⟩:=hd.shape;subst hsh)
          | (refine step_append_file rfl _ _ rfl (w:=wr.drew) rfl rfl Kf.out (by omega) (by assumption) (by assumption) (by assumption) (by omega) ?_;intro v' w3 hF3 hU3))
      have hup3:Upd (fun _=>False) w1 w3:=(Ka.out.drew).trans hU3 (fun b hb e=>by have:=(Kb.out.row.lt b e).1;omega)
      have H1:=hid hF3;have H2:=hid hup3
      clear hF3 hup3 hU3 hcell cm hlk c0 c1
      go_wp2
      go_roundw
      case rel=>exact ⟨k+1,by omega,by go_num,⟨_,by simp;omega,H1.out,by rw [List.map_append,HA.out,Kd.out];simp [FV.abs,FRec.abs,hrn]⟩,H2.out⟩
      case measure=>simp [intOf];omega
    · obtain rfl:k=n:=by omega
      have hfin:((sortNames s.names).take k).filterMap (fun n=>(s.fileAt n).map FRec.abs)=fileList s:=by rw [HL.out,List.take_length];rfl
      have HF:=hid (HA.out.trans hfin)
      clear hfin
      go_wp2
      go_ret
      refine ⟨_,l,rfl,?_,HF.out,HU.out.trans Ka.out (fun _ _ h=>h)⟩
      have h:=Kb.out
      exact ⟨owns_lower h.row HU.out.size,h.data,fun b hb=>Nat.le_trans HU.out.size (h.low b hb),h.nodup⟩
def IntsAt (w:World) (v:Value) (xs:List Int):Prop:=
 ∃ao cap,v=.slice ao xs.length cap∧xs.length≤9223372036854775807∧∀k (_:k<xs.length),∃a:Addr,ao=some a∧a.spot=none∧∀j (hj:j<xs.length),w.cell? ⟨a.block,a.off+j,none⟩=some (.int .i64 xs[j])
def keepOf (cuts:List Int) (k tail:Nat):Nat:=if k<cuts.length then (min (max (cuts.getD k 0) 0) tail).toNat else 0
def crashStep (cuts:List Int) (st:List FileA×Nat) (n:ByteArray):List FileA×Nat:=
 match st.1.find? (fun f=>f.name==n) with
 | none=>st
 | some f=>
  if f.data.length≤f.synced then st
  else (updA st.1 n (fun g=>{ g with synced:=f.synced+keepOf cuts st.2 (f.data.length-f.synced),data:=f.data.take (f.synced+keepOf cuts st.2 (f.data.length-f.synced)) }),st.2+1)
def crashF (cuts:List Int) (l:List FileA):List FileA×Nat:=(sortNames (l.map (·.name))).foldl (crashStep cuts) (l,0)
theorem keepOf_le (cuts:List Int) (k tail:Nat):keepOf cuts k tail≤tail:=by
 unfold keepOf
 split
 ·omega
 ·omega
theorem foldl_take_step {α β:Type} (f:α→β→α) (a:α) (l:List β) (k:Nat) (h:k<l.length):(l.take (k+1)).foldl f a=f ((l.take k).foldl f a) l[k]:=by
 rw [List.take_succ_eq_append_getElem h,List.foldl_append];rfl
theorem find_abs {s:DS} {n:ByteArray} {r:FRec} (h:s.fileAt n=some r):(s.recs.map FRec.abs).find? (fun f=>f.name==n)=some r.abs:=by
 rw [List.find?_map]
 show Option.map FRec.abs (s.recs.find? (fun r=>r.name==n))=_
 unfold DS.fileAt at h
 rw [h];rfl
theorem setRec_names (l:List FRec) (r':FRec):(setRec l r').map (·.name)=l.map (·.name):=by
 unfold setRec
 rw [List.map_map]
 apply List.map_congr_left
 intro x _
 simp only [Function.comp]
 split
 ·rename_i h;exact h.symm
 ·rfl
theorem DS.In.cut {w w':World} {s:DS} (h:s.In w) {r:FRec} (hr:r∈s.recs) {g cap y:Nat} (hdv:r.dv=.slice (some ⟨g,0,none⟩) r.data.length cap) (hy1:r.synced≤y) (hy2:y≤r.data.length)
  (hu:Upd (fun k=>k=s.p∨k=r.blk) w w') (hf:w'.heap[r.blk]? = some (.cells #[.slice (some ⟨g,0,none⟩) y y,.int .i64 y] 155 (0,0)))
  (ht:w'.heap[s.p]? = some (.cells ({ s with recs:=setRec s.recs { r with dv:=.slice (some ⟨g,0,none⟩) y y,data:=r.data.take y,synced:=y } } : DS).cells 122 (0,0))) :
  Step w w' s { s with recs:=setRec s.recs { r with dv:=.slice (some ⟨g,0,none⟩) y y,data:=r.data.take y,synced:=y } }:=by
 have hfi:=h.files r hr
 have hlen:(r.data.take y).length=y:=by simp;omega
 have hgb:r.dv.ownBlock=some g:=by rw [hdv];rfl
 have hgne:g≠s.p:=h.p_ne_blk hr (by simp [FRec.blocks,hgb])
 have hgr:g≠r.blk:=by
  have hb:=h.blocks
  obtain ⟨pre,post,e1,-⟩:=setRec_split h.names hr (r':=r) rfl
  rw [DS.blocks,e1] at hb
  intro e
  simp [recBlocks,FRec.blocks,hgb,e,List.nodup_append] at hb
 refine h.turned (r:=r) (r':={ r with dv:=.slice (some ⟨g,0,none⟩) y y,data:=r.data.take y,synced:=y }) hr rfl rfl rfl rfl rfl rfl h.armed (hu.mono (fun k _ e=>e.imp id (fun e=>by simp [FRec.blocks,e]))) ⟨hf,?_,?_,hfi.name⟩ ht ?_ ?_
 ·have hd:=hfi.data
  rw [hdv] at hd
  rcases hd with ⟨e,_⟩|⟨g',cap',cur,hv,h1,h2,h3,h4,h5⟩
  ·cases e
  ·simp only [Value.slice.injEq,Option.some.injEq,Addr.mk.injEq] at hv
   obtain ⟨⟨rfl,-,-⟩,-,rfl⟩:=hv
   refine .inr ⟨g,y,cur,by rw [hlen],hu.get h1 (fun e=>e.elim hgne hgr),Nat.le_of_eq hlen,Nat.le_trans hy2 (Nat.le_trans h2 h3),Nat.le_trans hy2 (Nat.le_trans h2 h4),?_⟩
   rw [hlen,List.map_take,←h5,List.take_take,Nat.min_eq_left hy2]
 ·show y≤(r.data.take y).length
  omega
 ·have h1:=h.room
  have h2:=usedOf_setRec h.names hr (r':={ r with dv:=.slice (some ⟨g,0,none⟩) y y,data:=r.data.take y,synced:=y }) rfl
  show usedOf (setRec s.recs { r with dv:=.slice (some ⟨g,0,none⟩) y y,data:=r.data.take y,synced:=y })≤s.cap
  simp only [hlen] at h2
  unfold DS.used at h1
  omega
 ·intro k hk
  simp only [Value.ownBlock,Option.some.injEq] at hk
  subst hk;exact .inl hgb
theorem crash_any {w:World} {s:DS} (hs:s.In w) {cv:Value} {cuts:List Int} (hcv:IntsAt w cv cuts) (hout:∀a l c,cv=.slice (some a) l c→0<l→a.block∉s.blocks∧a.block<w.heap.size) :
  Calls Tryz.prog 40 #[.pointer (some ⟨s.p,0,none⟩),cv] w fun e w'=>
   e=.returned (.int .i64 (crashF cuts s.abs.files).2)∧∃s2,Step w w' s s2∧s2.abs = { s.abs with files:=(crashF cuts s.abs.files).1,down:=false,armed:=0 }:=by
 have HN:=hid (names_any hs)
 have hcount:s.names.length≤256:=by simpa [DS.names] using hs.count
 have HS:=hid hs
 obtain ⟨cao,ccap,rfl,hcl,hcc⟩:=hcv
 have Kj:=hid hcc;have Kg:=hid hout
 have hplt:=hs.plt
 clear hs hcc hout
 go_enter Tryz.func40,Tryz.ntmps40
 go_wp2_with fail
 refine HN.out.mono ?_
 rintro e w1 ⟨v,n,rfl,hown,hu⟩
 obtain ⟨ao,cap,rfl,hn,hcells⟩:=owns_shape hown
 have hlen:n=(sortNames s.names).length:=by simpa using hn
 have hlen2:(sortNames s.names).length=s.names.length:=(sortNames_perm s.names).length_eq
 have hn256:n≤256:=by omega
 have HU:=hid hu;have HC:=hid hcells;have HL:=hid hlen
 have Kk:=hid (HS.out.upd hu (fun _ _ h=>h))
 clear hown hu hcells hlen hlen2 hn hcount
 go_wp2
 go_loopw [5,14] (fun tv i wr=>∃k:Nat,k≤n∧i=.int .i64 k∧∃(sk:DS) (t:Nat),t≤k∧tv=.int .i64 t∧Step w1 wr s sk∧sk.cap=s.cap∧sk.down=s.down∧sk.armed=s.armed∧sk.cnt=s.cnt∧sk.names=s.names∧
   (sk.recs.map FRec.abs,t)=((sortNames s.names).take k).foldl (crashStep cuts) (s.abs.files,0)) (fun _ i _=>n-(intOf i).toNat)
 case atStart=>exact ⟨0,Nat.zero_le _,rfl,s,0,Nat.le_refl _,rfl,Step.refl Kk.out,rfl,rfl,rfl,rfl,rfl,rfl⟩
 case round=>
  obtain ⟨k,hk,rfl,sk,t,htk,rfl,hst,e1,e2,e3,e4,e5,habs⟩:=hrel
  have Ka:=hid hst;have HA:=hid habs;have E1:=hid e1;have E2:=hid e2;have E3:=hid e3;have E4:=hid e4;have E5:=hid e5
  have hskp:=hst.p
  have HP:=hid hskp
  clear hst habs e1 e2 e3 e4 e5
  by_cases hlt:k<n
  ·obtain ⟨g,rfl,hg1,hg2,hg3⟩:=HC.out k hlt
   have hkl:k<(sortNames s.names).length:=by have:=HL.out;omega
   obtain ⟨x,hx⟩:∃x,x=(sortNames s.names)[k]:=⟨_,rfl⟩
   have hcell:wr.cell? ⟨g,k,none⟩=some (.string x):=by
    rw [Ka.out.other (fun hm=>by have:=HS.out.lt g hm;omega) hg2,hx]
    have:=hg3 k (by simpa using hkl)
    simpa using this
   have hxm:x∈sk.names:=by rw [E5.out];exact (sortNames_perm s.names).subset (hx ▸ List.getElem_mem hkl)
   obtain ⟨r,hfr⟩:=fileAt_of_name hxm
   obtain ⟨hrm,hrn⟩:=fileAt_mem hfr
   have hsk:=Ka.out.ins
   have hstep:((sortNames s.names).take (k+1)).foldl (crashStep cuts) (s.abs.files,0)=crashStep cuts (sk.recs.map FRec.abs,t) x:=by
    rw [foldl_take_step _ _ _ k hkl,←HA.out,hx]
   have cm:=hsk.c_map
   have hlk:=run_lookup_file hsk x
   unfold DS.ptrAt at hlk
   rw [hfr] at hlk
   simp only [] at hlk
   have hfi:=hsk.files r hrm
   have c0:=hfi.c_dv
   have c1:=hfi.c_synced
   have f0:=frozen_of_row wr r.blk 0 _ _ hfi.cells
   have f1:=frozen_of_row wr r.blk 1 _ _ hfi.cells
   have cu:=hsk.c_used
   have fu:=hsk.free 1
   have hdl:=hsk.data_le hrm
   have hle:=hfi.synced
   have hrp:r.blk≠sk.p:=hsk.blk_ne_p hrm
   rw [HP.out] at cm cu fu hrp
   have Kc:=hid hsk;have Kl:=hid hfi;have Kd:=hid hrm;have Kh:=hid (find_abs hfr)
   have hshape:=hfi.data.shape
   have hul:=le_usedOf hrm
   have hus:sk.used≤67108864:=by have:=hsk.room;have:=hsk.cap;omega
   have hul':r.data.length≤sk.used:=hul
   clear hg3 hx hxm hfr hfi hsk hul
   by_cases htl:r.data.length≤r.synced
   ·obtain ⟨ao',cap',hdv,-,-,-,-⟩:=hshape
    rw [hdv] at c0
    have hq:(((r.data.length:Int)-(r.synced:Int))==0)=true:=by simp;omega
    have hcs:crashStep cuts (sk.recs.map FRec.abs,t) x=(sk.recs.map FRec.abs,t):=by
     unfold crashStep
     rw [Kh.out]
     exact if_pos htl
    have H1:=hid (hstep.trans hcs)
    clear hstep hcs htl hdv
    go_wp2_with fail
    go_quiet (fail)
    go_wp2
    go_roundw
    case rel=>exact ⟨k+1,by omega,by go_num,sk,t,by omega,rfl,Ka.out.trans (Step.of_upd Kc.out ((Upd.refl _ _).drewN _)),E1.out,E2.out,E3.out,E4.out,E5.out,H1.out.symm⟩
    case measure=>simp [intOf];omega
   ·have hq:(((r.data.length:Int)-(r.synced:Int))==0)=false:=by simp;omega
    obtain ⟨kp,hkp⟩:∃kp,kp=keepOf cuts t (r.data.length-r.synced):=⟨_,rfl⟩
    have hkl2:kp≤r.data.length-r.synced:=by rw [hkp];exact keepOf_le _ _ _
    have hcs:crashStep cuts (sk.recs.map FRec.abs,t) x=(updA (sk.recs.map FRec.abs) x (fun f=>{ f with synced:=r.synced+kp,data:=r.data.take (r.synced+kp) }),t+1):=by
     unfold crashStep
     rw [Kh.out]
     refine (if_neg htl).trans ?_
     rw [hkp];rfl
    have H1:=hid (hstep.trans hcs)
    have Ki:=hid hkp
    clear hstep hcs hkp
    obtain ⟨ao',cap',hdv,hcap1,hcap2,hnone,hsome⟩:=hshape
    cases ao' with
    | none=>exact absurd (hnone rfl).1 (by intro h;rw [h] at htl;simp at htl)
    | some ad=>
     obtain ⟨z1,z2,-,-⟩:=hsome ad rfl
     obtain ⟨gd,od,spd⟩:=ad
     simp only at z1 z2
     subst z1 z2
     rw [hdv] at c0
     have hcap2':cap'≤9223372036854775807:=by simpa [maxLen] using hcap2
     have Km:=hid hdv
     clear hsome hnone hcap2 hdv
     have hcut:Step wr (((wr.setCell ⟨r.blk,1,none⟩ (.int .i64 ((r.synced:Int)+(kp:Int)))).setCell ⟨s.p,1,none⟩ (.int .i64 ((sk.used:Int)-((r.data.length:Int)-(r.synced:Int)-(kp:Int))))).setCell ⟨r.blk,0,none⟩ (.slice (some ⟨gd,0,none⟩) (r.synced+kp) (r.synced+kp))) sk
       { sk with recs:=setRec sk.recs { r with dv:=.slice (some ⟨gd,0,none⟩) (r.synced+kp) (r.synced+kp),data:=r.data.take (r.synced+kp),synced:=r.synced+kp } }:=by
      refine Kc.out.cut Kd.out Km.out (by omega) (by omega) (((((Upd.refl _ wr).setCell (fun _=>.inr rfl) _).setCell (fun _=>.inl HP.out.symm) _)).setCell (fun _=>.inr rfl) _) ?_ ?_
      ·have q1:=heap_setCell_at wr r.blk 1 _ _ (.int .i64 ((r.synced:Int)+(kp:Int))) Kl.out.cells
       have q2:((wr.setCell ⟨r.blk,1,none⟩ (.int .i64 ((r.synced:Int)+(kp:Int)))).setCell ⟨s.p,1,none⟩ (.int .i64 ((sk.used:Int)-((r.data.length:Int)-(r.synced:Int)-(kp:Int))))).heap[r.blk]? = _:=(heap_setCell_ne _ _ _ _ hrp).trans q1
       rw [heap_setCell_at _ _ _ _ _ _ q2]
       rfl
      ·rw [heap_setCell_ne _ _ _ _ (by rw [HP.out];exact hrp.symm),HP.out]
       have q1:(wr.setCell ⟨r.blk,1,none⟩ (.int .i64 ((r.synced:Int)+(kp:Int)))).heap[s.p]? = some (.cells sk.cells 122 (0,0)):=by
        rw [heap_setCell_ne _ _ _ _ hrp.symm,←HP.out];exact Kc.out.top
       rw [heap_setCell_at _ _ _ _ _ _ q1]
       have hlen:(r.data.take (r.synced+kp)).length=r.synced+kp:=by simp;omega
       have hu2:=usedOf_setRec Kc.out.names Kd.out (r':={ r with dv:=.slice (some ⟨gd,0,none⟩) (r.synced+kp) (r.synced+kp),data:=r.data.take (r.synced+kp),synced:=r.synced+kp }) rfl
       simp only [hlen] at hu2
       have hu3:(sk.used:Int)-((r.data.length:Int)-(r.synced:Int)-(kp:Int))=((usedOf (setRec sk.recs { r with dv:=.slice (some ⟨gd,0,none⟩) (r.synced+kp) (r.synced+kp),data:=r.data.take (r.synced+kp),synced:=r.synced+kp }):Nat):Int):=by
        unfold DS.used;omega
       rw [hu3];rfl
     have habs:(setRec sk.recs { r with dv:=.slice (some ⟨gd,0,none⟩) (r.synced+kp) (r.synced+kp),data:=r.data.take (r.synced+kp),synced:=r.synced+kp }).map FRec.abs=updA (sk.recs.map FRec.abs) x (fun f=>{ f with synced:=r.synced+kp,data:=r.data.take (r.synced+kp) }):=by
      rw [←hrn]
      exact setRec_abs (r:=r) (r':={ r with dv:=.slice (some ⟨gd,0,none⟩) (r.synced+kp) (r.synced+kp),data:=r.data.take (r.synced+kp),synced:=r.synced+kp }) Kc.out.names Kd.out rfl rfl
     have hnames:({ sk with recs:=setRec sk.recs { r with dv:=.slice (some ⟨gd,0,none⟩) (r.synced+kp) (r.synced+kp),data:=r.data.take (r.synced+kp),synced:=r.synced+kp } } : DS).names=s.names:=
      (setRec_names _ _).trans E5.out
     have Kb:=hid hcut;have Ke:=hid habs;have Kf:=hid hnames
     clear hcut habs hnames
     by_cases htc:t<cuts.length
     ·obtain ⟨ca,hca,hcs,hcx⟩:=Kj.out t htc
      subst hca
      obtain ⟨o1,o2⟩:=Kg.out ca _ _ rfl (by omega)
      have hcc:wr.cell? ⟨ca.block,ca.off+t,none⟩=some (.int .i64 (cuts[t])):=by
       rw [Ka.out.other (fun hm=>o1 hm) (by have:=HU.out.size;omega),World.cell?_of_block (w:=w) (a:=⟨ca.block,ca.off+t,none⟩) (HU.out.block ca.block o2 (fun h=>h))]
       exact hcx t htc
      have hkk:min (max cuts[t] 0) ((r.data.length:Int)-(r.synced:Int))=(kp:Int):=by
       rw [Ki.out,keepOf,if_pos htc,List.getD_eq_getElem?_getD,List.getElem?_eq_getElem htc,Option.getD_some]
       omega
      obtain ⟨cb,co,cs⟩:=ca
      simp only at hcs hcc
      subst hcs
      generalize cuts[t]=ct at *
      clear hcx
      go_wp2_with fail
      go_quiet (fail)
      go_wp2_with fail
      go_region
      go_wp2
      go_roundw
      case rel=>exact ⟨k+1,by omega,by go_num,_,t+1,by omega,by go_num,Ka.out.trans (Kb.out.trans (Step.of_upd Kb.out.ins (show Upd (fun _=>False) _ _ from ⟨rfl,rfl,rfl,Nat.le_refl _,fun _ _ _=>rfl⟩))),E1.out,E2.out,E3.out,E4.out,Kf.out,(H1.out.trans (by rw [Ke.out])).symm⟩
      case measure=>simp [intOf];omega
     ·have hkk:kp=0:=by rw [Ki.out,keepOf,if_neg htc]
      subst hkk
      simp only [Nat.add_zero,Int.natCast_zero,Int.add_zero,Int.sub_zero] at Kb Ke Kf H1
      have htc':(cuts.length:Int)≤(t:Int):=by omega
      go_wp2_with fail
      go_quiet (fail)
      go_wp2_with fail
      go_region
      go_wp2
      go_roundw
      case rel=>exact ⟨k+1,by omega,by go_num,_,t+1,by omega,by go_num,Ka.out.trans (Kb.out.trans (Step.of_upd Kb.out.ins (show Upd (fun _=>False) _ _ from ⟨rfl,rfl,rfl,Nat.le_refl _,fun _ _ _=>rfl⟩))),E1.out,E2.out,E3.out,E4.out,Kf.out,(H1.out.trans (by rw [Ke.out])).symm⟩
      case measure=>simp [intOf];omega
  ·obtain rfl:k=n:=by omega
   have hfin:(sk.recs.map FRec.abs,t)=crashF cuts s.abs.files:=by
    rw [HA.out,HL.out,List.take_length]
    unfold crashF
    rw [show s.abs.files.map (·.name)=s.names from by simp [DS.abs,DS.names,FRec.abs]]
   have hsk:=Ka.out.ins
   have cd:=hsk.c_down
   have c4:=hsk.c_armed
   have f3:=hsk.free 3
   have f4:=hsk.free 4
   rw [HP.out] at cd c4 f3 f4
   have hst2:Step wr ((wr.setCell ⟨s.p,3,none⟩ (.bool false)).setCell ⟨s.p,4,none⟩ (.int .i64 0)) sk { sk with down:=false,armed:=0 }:=by
    refine hsk.top_turned (((Upd.refl _ wr).setCell (fun _=>HP.out.symm) _).setCell (fun _=>HP.out.symm) _) rfl rfl rfl rfl ?_ ⟨by simp,by simp⟩
    rw [HP.out]
    rw [heap_setCell_at _ _ _ _ _ _ (heap_setCell_at _ _ _ _ _ _ (HP.out ▸ hsk.top))]
    rfl
   have H1:=hid hfin;have H2:=hid hst2
   clear hfin hst2 hsk
   go_wp2
   go_ret
   have hU:=Step.of_upd HS.out HU.out
   refine ⟨by rw [←H1.out];rfl,_,(hU.trans Ka.out).trans H2.out,?_⟩
   rw [←H1.out]
   simp [DS.abs,E1.out,E4.out]
end Go.Proofs.YtgaidmohdhaonaaGreatDoor
