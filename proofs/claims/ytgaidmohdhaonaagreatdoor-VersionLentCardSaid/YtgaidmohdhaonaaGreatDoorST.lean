/-
  Package manifest: number; strings.TrimPrefix, walked.
  What Sweep makes of a disk, as plain data; a map of names; the table of the powers of ten.
-/
import Derived.Test.YtgaidmohdhaonaaGreatDoorSG
import Derived.Test.YtgaidmohdhaonaaGreatDoorShelf
import Derived.Test.YtgaidmohdhaonaaGreatDoorZF
import Derived.Test.YtgaidmohdhaonaaGreatDoorYK
import Derived.Test.YtgaidmohdhaonaaGreatDoorYE
set_option linter.unusedVariables false
set_option linter.unusedSimpArgs false
set_option linter.unnecessarySimpa false
set_option linter.unusedSectionVars false
set_option maxRecDepth 100000
set_option maxHeartbeats 1600000
namespace Go.Proofs.YtgaidmohdhaonaaGreatDoor
open Go Go.RowKit
def numP:List UInt8→Int→Int
 | [],n=>n
 | b :: t,n=>if (b.toNat:Int)-48<0∨9<(b.toNat:Int)-48∨(9223372036854775807-((b.toNat:Int)-48)) / 10<n then 0 else numP t (10*n+((b.toNat:Int)-48))
theorem numP_step {s:ByteArray} {k:Nat} (hk:k<s.size) (n:Int):numP (s.data.toList.drop k) n=if ((s[k]).toNat:Int)-48<0∨9<((s[k]).toNat:Int)-48∨(9223372036854775807-(((s[k]).toNat:Int)-48)) / 10<n then 0 else numP (s.data.toList.drop (k+1)) (10*n+(((s[k]).toNat:Int)-48)):=by
 have hl:k<s.data.toList.length:=by simpa using hk
 rw [List.drop_eq_getElem_cons hl]
 have e:s.data.toList[k]=s[k]:=by simp [ByteArray.getElem_eq_getElem_data]
 rw [e]
 rfl
theorem number_any (s:ByteArray) (hs:s.size≤140737488355328) (w:World) :
  Calls Tryz.prog 98 #[.string s] w fun e w'=>e=.returned (.int .i64 (numP s.data.toList 0))∧w'=w:=by
 go_enter Tryz.func98,Tryz.ntmps98
 go_wp2
 go_loop [3,8] (fun nv iv=>∃(n:Int) (k:Nat),nv=.int .i64 n∧iv=.int .i64 k∧k≤s.size∧0≤n∧n≤9223372036854775807∧numP s.data.toList 0=numP (s.data.toList.drop k) n) (fun _ iv=>s.size-(intOf iv).toNat)
 case atStart=>exact ⟨0,0,rfl,rfl,Nat.zero_le _,by omega,by omega,rfl⟩
 case round=>
  obtain ⟨n,k,rfl,rfl,hk,hn0,hn1,hp⟩:=hrel
  have HP:=hid hp
  clear hp
  by_cases hlt:k<s.size
  ·have Ka:=hid (numP_step hlt n)
   have hb:((s[k]).toNat:Int)<256:=by have:=(s[k]).toNat_lt;omega
   obtain ⟨c,hc⟩:∃c,c=((s[k]).toNat:Int)-48:=⟨_,rfl⟩
   have hc':((s[k]).toNat:Int)-48=c:=hc.symm
   rw [hc'] at Ka
   have hcl : -48≤c∧c<208:=by omega
   obtain ⟨hcl1,hcl2⟩:=hcl
   obtain ⟨d,hd⟩:∃d,d=(9223372036854775807-c) / 10:=⟨_,rfl⟩
   have hd':(9223372036854775807-c).tdiv 10=d:=by rw [hd];exact Int.tdiv_eq_ediv_of_nonneg (by omega)
   rw [←hd] at Ka
   have hdl:0≤d∧d≤922337203685477580+5∧(c≤9→0≤c→10*d+c≤9223372036854775807):=by omega
   obtain ⟨hdl1,hdl2,hdl3⟩:=hdl
   clear hc hd hb
   by_cases h1:c<0
   ·have HF:=hid (show numP s.data.toList 0=0 from by rw [HP.out,Ka.out,if_pos (.inl h1)])
    go_wp2
    go_ret
    exact ⟨by rw [HF.out];rfl,rfl⟩
   ·by_cases h2:9<c
    ·have HF:=hid (show numP s.data.toList 0=0 from by rw [HP.out,Ka.out,if_pos (.inr (.inl h2))])
     go_wp2
     go_ret
     exact ⟨by rw [HF.out];rfl,rfl⟩
    ·by_cases h3:d<n
     ·have HF:=hid (show numP s.data.toList 0=0 from by rw [HP.out,Ka.out,if_pos (.inr (.inr h3))])
      go_wp2
      go_ret
      exact ⟨by rw [HF.out];rfl,rfl⟩
     ·have HF:=hid (show numP s.data.toList 0=numP (s.data.toList.drop (k+1)) (10*n+c) from by rw [HP.out,Ka.out,if_neg (by omega)])
      have hb1:0≤10*n+c:=by omega
      have hb2:10*n+c≤9223372036854775807:=by have:=hdl3 (by omega) (by omega);omega
      clear hdl3
      go_wp2
      go_round
      case rel=>exact ⟨10*n+c,k+1,rfl,by go_num,by omega,hb1,hb2,HF.out⟩
      case measure=>simp [intOf];omega
  ·obtain rfl:k=s.size:=by omega
   have HF:=hid (show numP s.data.toList 0=n from by rw [HP.out,List.drop_eq_nil_of_le (by simp)];rfl)
   go_wp2
   go_ret
   exact ⟨by rw [HF.out];rfl,rfl⟩
def trimP (s p:ByteArray):ByteArray:=if Lib.hasPrefix s.data.toList p.data.toList then s.extract p.size s.size else s
theorem hasPrefix_len {s p:ByteArray} (h:Lib.hasPrefix s.data.toList p.data.toList=true):p.size≤s.size:=by
 have h1:p.data.toList <+: s.data.toList:=by
  unfold Lib.hasPrefix at h
  exact List.isPrefixOf_iff_prefix.1 h
 have h2:=h1.length_le
 simpa using h2
theorem trim0_any (s p:ByteArray) (w:World) :
  Calls Tryz.prog 149 #[.string s,.string p] w fun e w'=>e=.returned (.string (trimP s p))∧w'=w:=by
 have HP:=hid (Tryz.stringslite_HasPrefix s p)
 by_cases h:Lib.hasPrefix s.data.toList p.data.toList=true
 ·have HT:=hid (show trimP s p=s.extract p.size s.size from by unfold trimP;rw [if_pos h])
  have hle:=hasPrefix_len h
  have hle':(p.size:Int)≤(s.size:Int):=by omega
  rw [h] at HP
  clear h
  go_enter Tryz.func149,Tryz.ntmps149
  go_wp2_with (go_at_call 147;refine (HP.out _).mono ?_;rintro e w' ⟨rfl,rfl⟩)
  go_ret
  exact ⟨by rw [HT.out];rfl,rfl⟩
 ·have h':Lib.hasPrefix s.data.toList p.data.toList=false:=by simpa using h
  have HT:=hid (show trimP s p=s from by unfold trimP;rw [if_neg h])
  rw [h'] at HP
  clear h h'
  go_enter Tryz.func149,Tryz.ntmps149
  go_wp2_with (go_at_call 147;refine (HP.out _).mono ?_;rintro e w' ⟨rfl,rfl⟩)
  go_ret
  exact ⟨by rw [HT.out];rfl,rfl⟩
theorem trim_any (s p:ByteArray) (w:World) :
  Calls Tryz.prog 99 #[.string s,.string p] w fun e w'=>e=.returned (.string (trimP s p))∧w'=w:=by
 have HT:=hid (trim0_any s p)
 go_enter Tryz.func99,Tryz.ntmps99
 go_wp2_with fail
 refine (HT.out _).mono ?_
 rintro e w' ⟨rfl,rfl⟩
 go_wp2
 go_ret
 exact ⟨rfl,rfl⟩
def TabP (w:World):Prop:=Lib.TabIs Tryz.prog w "internal/strconv.uint64pow10" .u64 Lib.pow10Tab
theorem tabP_at:Tryz.prog.globalNamed "internal/strconv.uint64pow10"=some 2:=by kernel_rfl
theorem TabP.lt {w:World} (h:TabP w):2<w.heap.size:=by
 unfold TabP Lib.TabIs World.var? at h
 rw [tabP_at] at h
 simp only [Option.bind_some] at h
 cases hw:w.heap[2]? with
 | none=>rw [hw] at h;cases h
 | some o=>exact lt_of_heap hw
theorem TabP.upd {S:Nat→Prop} {w w':World} (h:TabP w) (hu:Upd S w w') (hn:¬S 2):TabP w':=by
 have hl:=h.lt
 unfold TabP Lib.TabIs World.var? at h⊢
 rw [tabP_at] at h⊢
 simp only [Option.bind_some] at h⊢
 rw [hu.block 2 hl hn]
 exact h
theorem TabP.keep {w w':World} (h:TabP w) (hu:Upd (fun _=>False) w w'):TabP w':=h.upd hu (fun e=>e)
theorem Step.two {w w':World} {s s2:DS} (h:Step w w' s s2) (h2:2∉s.blocks) (hw:TabP w):2∉s2.blocks:=fun e=>(h.foot 2 e).elim h2 (fun hk=>by have:=hw.lt;omega)
theorem look_putN:∀(E:List (ByteArray×Value)) (k n:ByteArray) (v:Value),look (put E k v) n=if n=k then some v else look E n
 | [],k,n,v=>by
  show look [(k,v)] n=_
  rw [look_cons,look_nil]
  by_cases h:k=n
  ·rw [if_pos h,if_pos h.symm]
  ·rw [if_neg h,if_neg (fun e=>h e.symm)]
 | p :: E,k,n,v=>by
  show look (if p.1=k then (p.1,v) :: E else p :: put E k v) n=_
  by_cases hp:p.1=k
  ·rw [if_pos hp,look_cons,look_cons]
   by_cases h:p.1=n
   ·rw [if_pos h,if_pos (h.symm.trans hp)]
   ·rw [if_neg h,if_neg h,if_neg (fun e=>h (hp.trans e.symm))]
  ·rw [if_neg hp,look_cons,look_cons,look_putN E k n v]
   by_cases h:p.1=n
   ·rw [if_pos h,if_pos h,if_neg (fun e=>hp (h.trans e))]
   ·rw [if_neg h,if_neg h]
def nameE (pre:ByteArray) (l:List MetaA) (E:List (ByteArray×Value)):List (ByteArray×Value):=l.foldl (fun E r=>put E (runName pre r.num) (.bool true)) E
def namedB (pre:ByteArray) (l:List MetaA) (f:ByteArray):Bool:=l.any fun r=>decide (runName pre r.num=f)
theorem nameE_look (pre f:ByteArray):∀(l:List MetaA) (E:List (ByteArray×Value)),look (nameE pre l E) f=if namedB pre l f=true then some (.bool true) else look E f
 | [],E=>by simp [nameE,namedB]
 | r :: l,E=>by
  have ih:=nameE_look pre f l (put E (runName pre r.num) (.bool true))
  show look (nameE pre l (put E (runName pre r.num) (.bool true))) f=_
  rw [ih,look_putN]
  have hc:namedB pre (r :: l) f=(decide (runName pre r.num=f) || namedB pre l f):=rfl
  rw [hc]
  by_cases h:namedB pre l f=true
  ·rw [if_pos h,if_pos (by rw [h];simp)]
  ·rw [if_neg h]
   by_cases h2:f=runName pre r.num
   ·rw [if_pos h2,if_pos (by rw [decide_eq_true h2.symm];rfl)]
   ·rw [if_neg h2,if_neg (by rw [decide_eq_false (fun e=>h2 e.symm),Bool.false_or];exact h)]
theorem nameE_get (pre f:ByteArray) (l:List MetaA):(look (nameE pre l []) f).getD (.bool false)=.bool (namedB pre l f):=by
 rw [nameE_look]
 cases h:namedB pre l f<;>simp [look_nil]
theorem nameE_step {pre:ByteArray} {l:List MetaA} {k:Nat} (hk:k<l.length):nameE pre (l.take (k+1)) []=put (nameE pre (l.take k) []) (runName pre l[k].num) (.bool true):=by
 unfold nameE
 rw [List.take_succ_eq_append_getElem hk,List.foldl_append]
 rfl
def zeroB (x:VerA):Bool:=decide (x.gen=0)&&decide (x.flushed=0)&&decide (x.next=0)&&decide (x.low=0)&&decide (x.clock=0)&&decide (x.state.length=0)&&decide (x.runs.length=0)
def numOf (pre f:ByteArray):Int:=numP (trimP f (pre++runB)).data.toList 0
def isRunP (pre f:ByteArray):Bool:=decide (1≤numOf pre f)&&decide (runName pre (numOf pre f)=f)
def goesP (pre:ByteArray) (l:List MetaA) (f:ByteArray):Bool:=decide (f=pre++tempB) || (isRunP pre f && !namedB pre l f)
def sweepR (g:ByteArray→Bool):List ByteArray→List ByteArray→DiskA→(List ByteArray×Int)×DiskA
 | [],gone,a=>((gone,0),a)
 | f :: l,gone,a=>if g f=false then sweepR g l gone a else if (deleteP a f).1≠0 then ((gone,(deleteP a f).1),(deleteP a f).2) else sweepR g l (gone ++ [f]) (deleteP a f).2
theorem sweepR_cons (g:ByteArray→Bool) (f:ByteArray) (l gone:List ByteArray) (a:DiskA):sweepR g (f :: l) gone a=if g f=false then sweepR g l gone a else if (deleteP a f).1≠0 then ((gone,(deleteP a f).1),(deleteP a f).2) else sweepR g l (gone ++ [f]) (deleteP a f).2:=rfl
def listP (a:DiskA) (pre:ByteArray):List ByteArray:=(sortNames (a.files.map (·.name))).filter (hasPre pre)
def sweepP (a:DiskA) (pre:ByteArray) (x:VerA):(List ByteArray×Int)×DiskA:=
 if askedP a pre≠0 then (([],askedP a pre),a)
 else if checkA x≠0∧zeroB x=false then (([],checkA x),a)
 else sweepR (goesP pre x.runs) (listP a pre) [] a
theorem list_p (s:DS) (pre:ByteArray):listNames s pre=listP s.abs pre:=by
 unfold listNames listP DS.names
 show _=List.filter (hasPre pre) (sortNames ((s.recs.map FRec.abs).map (·.name)))
 rw [List.map_map]
 rfl
theorem numP_bounds:∀(l:List UInt8) (n:Int),0≤n→n≤9223372036854775807→0≤numP l n∧numP l n≤9223372036854775807
 | [],n,h0,h1=>⟨h0,h1⟩
 | b :: t,n,h0,h1=>by
  unfold numP
  have hb:(b.toNat:Int)<256:=by have:=b.toNat_lt;omega
  split
  ·omega
  ·exact numP_bounds t _ (by omega) (by omega)
theorem trimP_size (s p:ByteArray):(trimP s p).size≤s.size:=by
 unfold trimP
 split
 ·simp
 ·exact Nat.le_refl _
end Go.Proofs.YtgaidmohdhaonaaGreatDoor
