/-
  Package strataref4, walked: Load.
  The program's disk and the document's, as plain data: the acts answer alike. No program in sight.
  The program's disk and the document's, as plain data: Rename, Read, List, Crash answer alike. No program in sight.
  Package stratalaw4's Book: lists that were handed out, in memory; take, holds, roomy.
-/
import Derived.Test.YtgaidmohdhaonaaGreatDoorRH
import Derived.Test.YtgaidmohdhaonaaGreatDoorRA
import Derived.Test.YtgaidmohdhaonaaGreatDoorRF
set_option linter.unusedVariables false
set_option linter.unusedSimpArgs false
set_option linter.unnecessarySimpa false
set_option linter.unusedSectionVars false
set_option maxRecDepth 100000
set_option maxHeartbeats 1600000
namespace Go.Proofs.YtgaidmohdhaonaaGreatDoor
open Go Go.RowKit
def NamesND (a:DiskA):Prop:=(a.files.map (·.name)).Nodup
theorem sorted_fileList {w:World} {s:DS} {r:RS} (hs:s.In w) (h:Alike s.abs r.abs) (hso:Sorted r.F):r.F.map FV.abs=fileList s:=by
 have hp:(r.F.map FV.abs).Perm (fileList s):=h.files.symm.trans (fileList_files_perm hs).symm
 have hnd:((r.F.map FV.abs).map (·.name)).Nodup:=sorted_nodup hso
 have e1:(r.F.map FV.abs).map (·.name)=r.F.map (·.name):=by rw [List.map_map];rfl
 have hn1:((r.F.map FV.abs).map (·.name)).Pairwise (fun a b=>leB a.data.toList b.data.toList=true):=by
  rw [e1]
  refine List.Pairwise.imp (fun hab=>?_) hso
  simp only [leB,decide_eq_true_eq]
  exact List.le_of_lt hab
 have hn2:((fileList s).map (·.name)).Pairwise (fun a b=>leB a.data.toList b.data.toList=true):=by rw [fileList_names hs];exact sortNames_sorted _
 have hN:(r.F.map FV.abs).map (·.name)=(fileList s).map (·.name):=by
  refine List.Perm.eq_of_pairwise (le:=fun a b=>leB a.data.toList b.data.toList=true) (fun a b _ _ h1 h2=>?_) hn1 hn2 (hp.map _)
  simp only [leB,decide_eq_true_eq] at h1 h2
  have:=List.le_antisymm h1 h2
  rw [←toBA_data a,←toBA_data b,this]
 have hall:=filterMap_findA hnd (r.F.map FV.abs) (fun f hf=>hf)
 have hall2:=filterMap_findA (l:=r.F.map FV.abs) hnd (fileList s) (fun f hf=>hp.symm.subset hf)
 rw [←hall,hN,hall2]
theorem DataIs.setAt {w:World} {g cap k:Nat} {bs:List UInt8} (h:DataIs w (.slice (some ⟨g,0,none⟩) bs.length cap) bs) (hk:k<bs.length) (m:UInt8) :
  DataIs (w.setCell ⟨g,k,none⟩ (byteV m)) (.slice (some ⟨g,0,none⟩) bs.length cap) (bs.set k m):=by
 rcases h with ⟨e,_⟩|⟨g',cap',cur,e,h1,h2,h3,h4,h5⟩
 ·cases e
 ·injection e with e1 _ e3
  injection e1 with e1;injection e1 with e1
  subst e1 e3
  refine .inr ⟨g,cap,cur.setIfInBounds k (byteV m),by simp,heap_setCell_at _ _ _ _ _ _ h1,by simpa using h2,by simpa using h3,h4,?_⟩
  rw [List.length_set,List.map_set,Array.toList_setIfInBounds,List.take_set,h5]
theorem DataIs.c_at {w:World} {g cap k:Nat} {bs:List UInt8} (h:DataIs w (.slice (some ⟨g,0,none⟩) bs.length cap) bs) (hk:k<bs.length):w.cell? ⟨g,k,none⟩=some (byteV bs[k])∧w.frozen? ⟨g,k,none⟩=false∧g<w.heap.size:=by
 refine ⟨?_,?_,h.lt g rfl⟩
 ·obtain ⟨ao,cp,he,-,-,-,hs⟩:=h.shape
  injection he with e1 _ _
  subst e1
  exact (hs _ rfl).2.2.2 k hk
 ·rcases h with ⟨e,_⟩|⟨g',cap',cur,e,h1,-⟩
  ·cases e
  ·injection e with e1 _ _;injection e1 with e1;injection e1 with e1;subst e1
   exact frozen_of_row _ _ _ _ _ h1
theorem Tryz.infoBytes:(Tryz.prog.info? 22).map (fun i=>(i.zero,i.size,i.bytes))=some (some (.slice none 0 0),1,24):=by kernel_rfl
def flipU (b:UInt8) (k:Nat):UInt8:=UInt8.ofNat (bits .xor .u8 (b.toNat:Int) (2^k%256)).toNat
theorem flipU_val (b:UInt8) (k:Nat):((flipU b k).toNat:Int)=bits .xor .u8 (b.toNat:Int) (2^k%256):=by
 have h:0≤bits .xor .u8 (b.toNat:Int) (2^k%256)∧bits .xor .u8 (b.toNat:Int) (2^k%256)<256:=by
  unfold bits
  rw [IntKind.wrap_u8]
  omega
 unfold flipU
 rw [UInt8.toNat_ofNat']
 omega
def flipF (k:Nat) (f:FileA):FileA:={ f with data:=f.data.set (k / 8) (flipU (f.data.getD (k / 8) 0) (k%8)) }
def cFlip (a:DiskA) (n:ByteArray) (bit:Int):Int×DiskA:=
 if nameOk n.data.toList=false then (40,a)
 else match findA a.files n with
  | none=>(42,a)
  | some f=>if bit<0∨(f.data.length:Int)≤bit / 8 then (43,a) else (0,{ a with files:=updA a.files n (flipF bit.toNat) })
theorem flip_any {w:World} {s:DS} (hs:s.In w) (n:ByteArray) (bit:Int) (hbit:bit≤9223372036854775807) :
  Calls Tryz.prog 120 #[.pointer (some ⟨s.p,0,none⟩),.string n,.int .i64 bit] w fun e w'=>e=.returned (.int .i64 (cFlip s.abs n bit).1)∧∃s2,Step w w' s s2∧s2.abs=(cFlip s.abs n bit).2:=by
 have cm:=hs.c_map
 have hp:=hs.plt
 have hlk:=run_lookup_file hs n
 have HN:=hid (named_any n)
 have HS:=hid hs
 cases hok:nameOk n.data.toList with
 | false=>
  have HC:=hid (show cFlip s.abs n bit=(40,s.abs) by unfold cFlip;rw [if_pos hok])
  rw [hok] at HN
  clear hs hok
  go_enter Tryz.func120,Tryz.ntmps120
  go_wp2_with (go_at_call 127;refine (HN.out _).mono ?_;rintro e w' ⟨rfl,hww⟩;obtain rfl:=hww.symm)
  go_ret
  rw [HC.out]
  exact ⟨rfl,s,Step.refl HS.out,rfl⟩
 | true=>
 rw [hok] at HN
 unfold DS.ptrAt at hlk
 cases hf:s.fileAt n with
 | none=>
  have hfa:findA s.abs.files n=none:=by rw [←fileAt_findA,hf];rfl
  have HC:=hid (show cFlip s.abs n bit=(42,s.abs) by unfold cFlip;rw [if_neg (by rw [hok];decide),hfa])
  rw [hf] at hlk
  simp only [] at hlk
  clear hs hok hf hfa
  go_enter Tryz.func120,Tryz.ntmps120
  go_wp2_with (go_at_call 127;refine (HN.out _).mono ?_;rintro e w' ⟨rfl,hww⟩;obtain rfl:=hww.symm)
  go_ret
  rw [HC.out]
  exact ⟨rfl,s,Step.refl HS.out,rfl⟩
 | some r=>
  obtain ⟨hr,hnm⟩:=fileAt_mem hf
  have hfa:findA s.abs.files n=some r.abs:=by rw [←fileAt_findA,hf];rfl
  have hfi:=hs.files r hr
  have c0:=hfi.c_dv
  obtain ⟨ao,cap,hdv,hle,hmx,hnone,hsome⟩:=hfi.data.shape
  have hdl:=hs.data_le hr
  rw [hf] at hlk
  simp only [] at hlk
  have HR:=hid hr;have Kb:=hid hnm;have Kc:=hid hfi;have Ka:=hid hdv
  rw [hdv] at c0
  have hrb:r.blk<w.heap.size:=lt_of_heap hfi.cells
  by_cases hneg:bit<0
  ·have HC:=hid (show cFlip s.abs n bit=(43,s.abs) by unfold cFlip;rw [if_neg (by rw [hok];decide),hfa];exact if_pos (.inl hneg))
   clear hs hok hf hfa hfi hdv hr hnm hle hmx hnone hsome hdl
   go_enter Tryz.func120,Tryz.ntmps120
   go_wp2_with (go_at_call 127;refine (HN.out _).mono ?_;rintro e w' ⟨rfl,hww⟩;obtain rfl:=hww.symm)
   go_ret
   rw [HC.out]
   exact ⟨rfl,s,Step.refl HS.out,rfl⟩
  obtain ⟨b,rfl⟩:∃b:Nat,bit=(b:Int):=⟨bit.toNat,by omega⟩
  obtain ⟨q,hqq⟩:∃q,q=b / 8:=⟨_,rfl⟩
  obtain ⟨m,hmm⟩:∃m,m=b%8:=⟨_,rfl⟩
  have hq8:(b:Int) / 8=(q:Int):=by omega
  have hr8:(b:Int)%8=(m:Int):=by omega
  have Kd:=hid hqq;have Ke:=hid hmm
  have hb0:decide ((b:Int)<0)=false:=by simp
  have hb1:(0:Int)≤(b:Int):=by omega
  by_cases hout:(r.data.length:Int)≤(b:Int) / 8
  ·have HC:=hid (show cFlip s.abs n b=(43,s.abs) by unfold cFlip;rw [if_neg (by rw [hok];decide),hfa];exact if_pos (.inr hout))
   clear hs hok hf hfa hfi hdv hr hnm hle hmx hnone hsome hdl hqq hmm
   rw [hq8] at hout
   go_enter Tryz.func120,Tryz.ntmps120
   go_wp2_with (go_at_call 127;refine (HN.out _).mono ?_;rintro e w' ⟨rfl,hww⟩;obtain rfl:=hww.symm)
   go_ret
   rw [HC.out]
   exact ⟨rfl,s,Step.refl HS.out,rfl⟩
  ·have hlt:q<r.data.length:=by omega
   have HC:=hid (show cFlip s.abs n b=(0,{ s.abs with files:=updA s.abs.files n (flipF b) }) by unfold cFlip;rw [if_neg (by rw [hok];decide),hfa];exact if_neg (by rintro (h|h);exact hneg h;exact hout h))
   obtain ⟨g,rfl⟩:∃g,ao=some ⟨g,0,none⟩:=by
    cases ao with
    | none=>have h:=(hnone rfl).1;rw [h] at hlt;simp at hlt
    | some a=>
     obtain ⟨z1,z2,-,-⟩:=hsome a rfl
     obtain ⟨g,o,s'⟩:=a
     simp only at z1 z2
     subst z1 z2
     exact ⟨g,rfl⟩
   have hdx:DataIs w (.slice (some ⟨g,0,none⟩) r.data.length cap) r.data:=hdv ▸ hfi.data
   obtain ⟨d0,d1,d2⟩:=hdx.c_at hlt
   have Kf:=hid hdx
   obtain ⟨x0,hx0⟩:∃x0,x0=r.data[q]:=⟨_,rfl⟩
   rw [←hx0] at d0
   have Kg:=hid hx0
   simp only [byteV] at d0
   have hm8:m<8:=by omega
   clear hs hok hf hfa hfi hdv hr hnm hle hmx hnone hsome hdl hneg hdx hx0 hqq hmm
   rw [hq8] at hout
   go_enter Tryz.func120,Tryz.ntmps120
   go_wp2_with (go_at_call 127;refine (HN.out _).mono ?_;rintro e w' ⟨rfl,hww⟩;obtain rfl:=hww.symm)
   have hfv:=flipU_val x0 m
   obtain ⟨y0,hy0⟩:∃y0,y0=flipU x0 m:=⟨_,rfl⟩
   rw [←hy0] at hfv
   have Kh:=hid hy0;have Ki:=hid hfv
   clear hy0 hfv
   go_region
   all_goals
    rw [←Ki.out]
    have hrec:s.recs=s.recs:=rfl
    clear hrec
    have hin:=Kc.out
    have hd2:=Kf.out.setAt (k:=q) hlt y0
    have hgr:r.dv.ownBlock=some g:=by rw [Ka.out];rfl
    have hgne:g≠r.blk:=fun e=>by
     have hb:=HS.out.blocks
     obtain ⟨pre,post,h1,-⟩:=setRec_split HS.out.names HR.out (r':=r) rfl
     rw [DS.blocks,h1] at hb
     simp [recBlocks,FRec.blocks,hgr,e,List.nodup_append] at hb
    have hgb:g∈r.blocks:=by simp [FRec.blocks,hgr]
    have hgp:=HS.out.p_ne_blk HR.out hgb
    have hu:Upd (fun k=>k=g) w (w.setCell ⟨g,q,none⟩ (.int .u8 (y0.toNat:Int))).drew:=(Upd.cell_only _ _ _ _).drew
    have hused:usedOf (setRec s.recs { r with data:=r.data.set q y0 })=s.used:=by
     have:=usedOf_setRec HS.out.names HR.out (r':={ r with data:=r.data.set q y0 }) rfl
     unfold DS.used;simp at this;omega
    have hst:Step w (w.setCell ⟨g,q,none⟩ (.int .u8 (y0.toNat:Int))).drew s { s with recs:=setRec s.recs { r with data:=r.data.set q y0 } }:=by
     refine HS.out.turned (r:=r) (r':={ r with data:=r.data.set q y0 }) HR.out rfl rfl rfl rfl rfl rfl HS.out.armed (hu.mono (fun k _ h=>.inr (by rw [h];exact hgb))) ⟨?_,?_,by simpa using hin.synced,hin.name⟩ ?_ ?_ (fun k h=>.inl h)
     ·exact hu.get hin.cells (fun e=>hgne e.symm)
     ·show DataIs (w.setCell ⟨g,q,none⟩ (.int .u8 (y0.toNat:Int))).drew r.dv (r.data.set q y0)
      rw [Ka.out]
      exact hd2.of_block (fun k hk=>rfl)
     ·have e:({ s with recs:=setRec s.recs { r with data:=r.data.set q y0 } } : DS).cells=s.cells:=by simp [DS.cells,DS.used,hused]
      rw [e];exact hu.get HS.out.top (fun e=>hgp e.symm)
     ·have:=HS.out.room
      show usedOf _≤s.cap
      rw [hused];exact this
    have Kj:=hid hst
    clear hin hd2 hgr hgne hgb hgp hu hused hst
    go_wp2
    go_ret
    rw [HC.out]
    refine ⟨rfl,_,Kj.out,?_⟩
    show DiskA.mk _ _ _ _ _=DiskA.mk _ _ _ _ _
    congr 1
    rw [←Kb.out]
    refine setRec_abs (r:=r) (r':={ r with data:=r.data.set q y0 }) HS.out.names HR.out rfl ?_
    have h1:=Kd.out;have h2:=Ke.out;have h3:=Kg.out;have h4:=Kh.out
    subst h1 h2
    unfold flipF
    rw [h4,h3]
    simp [FRec.abs,List.getD,List.getElem?_eq_getElem hlt]
theorem refFlip_any {w:World} {r:RS} (hr:r.In w) (hso:Sorted r.F) (n:ByteArray) (bit:Int) (hbit:bit≤9223372036854775807) :
  Calls Tryz.prog 121 #[.pointer (some ⟨r.p,0,none⟩),.string n,.int .i64 bit] w fun e w'=>e=.returned (.int .i64 (cFlip r.abs n bit).1)∧∃r2,RStep w w' r r2∧Alike r2.abs (cFlip r.abs n bit).2∧Sorted r2.F:=by
 have hp:=hr.plt
 have HR:=hid hr
 have HN:=hid (refName_any n w)
 have hat0:=refAt_any hr n
 cases hok:nameOk n.data.toList with
 | false=>
  have HC:=hid (show cFlip r.abs n bit=(40,r.abs) by unfold cFlip;rw [if_pos hok])
  rw [hok] at HN
  clear hr hok hat0
  go_enter Tryz.func121,Tryz.ntmps121
  go_wp2_with (go_at_call 150;refine HN.out.mono ?_;rintro e w' ⟨rfl,hww⟩;obtain rfl:=hww.symm)
  go_ret
  rw [HC.out]
  exact ⟨rfl,r,RStep.refl HR.out,Alike.refl _,hso⟩
 | true=>
 rw [hok] at HN
 rcases atR_cases r.F n with ⟨h1,h2,_⟩|⟨k,hkl,h1,h3,h2⟩
 ·have HC:=hid (show cFlip r.abs n bit=(42,r.abs) by unfold cFlip;rw [if_neg (by rw [hok];decide),show r.abs.files=r.F.map FV.abs from rfl,h2])
  rw [h1] at hat0
  have Ka:=hid hat0
  clear hr hok hat0 h1 h2
  go_enter Tryz.func121,Tryz.ntmps121
  go_wp2_with (first|(go_at_call 150;refine HN.out.mono ?_;rintro e w' ⟨rfl,hww⟩;obtain rfl:=hww.symm)|(go_at_call 151;refine Ka.out.mono ?_;rintro e w' ⟨rfl,hww⟩;obtain rfl:=hww.symm))
  go_ret
  rw [HC.out]
  exact ⟨rfl,r,RStep.refl HR.out,Alike.refl _,hso⟩
 ·rw [h1] at hat0
  have Ka:=hid hat0
  obtain ⟨ao,cap,hfv,hcap,hat⟩:=hr.at
  have c1:=hr.c_f
  rw [hfv] at c1
  obtain ⟨g,rfl,hg,hgp,d0,d1,d2⟩:=hat k hkl
  obtain ⟨po,pc,hdv,hle,hmx,hnone,hsome⟩:=(hr.files.data r.F[k] (List.getElem_mem hkl)).shape
  rw [hdv] at d1
  have hct:r.F.length≤256:=hr.count
  have hfa:findA r.abs.files n=some r.F[k].abs:=h2
  have Km:=hid h3;have Kc:=hid hfv
  have hsm:=hr.small hkl
  have hby:BytesAt w (.slice po r.F[k].data.length pc) r.F[k].data:=by have h:=(hr.files.data r.F[k] (List.getElem_mem hkl)).bytes;rw [hdv] at h;exact h
  have Kd:=hid hby
  obtain ⟨L,hL⟩:∃L,L=r.F[k].data.length:=⟨_,rfl⟩
  rw [←hL] at d1 Kd hsm
  have HL:=hid hL
  by_cases hneg:bit<0
  ·have HC:=hid (show cFlip r.abs n bit=(43,r.abs) by unfold cFlip;rw [if_neg (by rw [hok];decide),hfa];exact if_pos (.inl hneg))
   clear hr hok hat0 hfv hat hdv hle hmx hnone hsome hfa h1 h2 h3 hby hL
   go_enter Tryz.func121,Tryz.ntmps121
   go_wp2_with (first|(go_at_call 150;refine HN.out.mono ?_;rintro e w' ⟨rfl,hww⟩;obtain rfl:=hww.symm)|(go_at_call 151;refine Ka.out.mono ?_;rintro e w' ⟨rfl,hww⟩;obtain rfl:=hww.symm))
   go_ret
   rw [HC.out]
   exact ⟨rfl,r,RStep.refl HR.out,Alike.refl _,hso⟩
  obtain ⟨b,rfl⟩:∃b:Nat,bit=(b:Int):=⟨bit.toNat,by omega⟩
  obtain ⟨q,hqq⟩:∃q,q=b / 8:=⟨_,rfl⟩
  obtain ⟨m,hmm⟩:∃m,m=b%8:=⟨_,rfl⟩
  have hq8:(b:Int) / 8=(q:Int):=by omega
  have hr8:(b:Int)%8=(m:Int):=by omega
  have Kg:=hid hqq;have Kh:=hid hmm
  have hb0:decide ((b:Int)<0)=false:=by simp
  have hb1:(0:Int)≤(b:Int):=by omega
  by_cases hout:(L:Int)≤(b:Int) / 8
  ·have HC:=hid (show cFlip r.abs n b=(43,r.abs) by unfold cFlip;rw [if_neg (by rw [hok];decide),hfa];exact if_pos (.inr (by rw [hL] at hout;exact hout)))
   clear hr hok hat0 hfv hat hdv hle hmx hnone hsome hfa h1 h2 h3 hby hL hqq hmm
   rw [hq8] at hout
   go_enter Tryz.func121,Tryz.ntmps121
   go_wp2_with (first|(go_at_call 150;refine HN.out.mono ?_;rintro e w' ⟨rfl,hww⟩;obtain rfl:=hww.symm)|(go_at_call 151;refine Ka.out.mono ?_;rintro e w' ⟨rfl,hww⟩;obtain rfl:=hww.symm))
   go_ret
   rw [HC.out]
   exact ⟨rfl,r,RStep.refl HR.out,Alike.refl _,hso⟩
  ·have hlt:q<r.F[k].data.length:=by omega
   have HC:=hid (show cFlip r.abs n b=(0,{ r.abs with files:=updA r.abs.files n (flipF b) }) by unfold cFlip;rw [if_neg (by rw [hok];decide),hfa];exact if_neg (by rintro (h|h);exact hneg h;exact hout (by rw [hL];exact h)))
   have hupd:updA r.abs.files n (flipF b)=(r.F.map FV.abs).set k (flipF b r.F[k].abs):=by
    have hkl':k<(r.F.map FV.abs).length:=by simpa using hkl
    have:=updA_set (sorted_nodup hso) hkl' (flipF b)
    rw [List.getElem_map] at this
    rw [←h3]
    exact this
   have Ke:=hid hupd
   have Kb:=hid hlt
   clear hr hok hat0 hfv hat hdv hle hmx hnone hsome hfa h1 h2 h3 hby hneg hupd hlt hL hqq hmm
   rw [hq8] at hout
   go_enter Tryz.func121,Tryz.ntmps121
   go_wp2_with (first|(go_at_call 150;refine HN.out.mono ?_;rintro e w' ⟨rfl,hww⟩;obtain rfl:=hww.symm)|(go_at_call 151;refine Ka.out.mono ?_;rintro e w' ⟨rfl,hww⟩;obtain rfl:=hww.symm))
   have hcp:=refCopied_any (w:=w) Kd.out (by have:=HL.out;omega)
   refine hcp.mono ?_
   clear hcp
   rintro e w2 ⟨vc,rfl,hd,hdo,hu⟩
   obtain ⟨ao2,cap2,hsh,-,-,hn2,hs2⟩:=hd.shape
   obtain ⟨g2,rfl⟩:∃g2,ao2=some ⟨g2,0,none⟩:=by
    cases ao2 with
    | none=>have h:=(hn2 rfl).1;have:=Kb.out;rw [h] at this;simp at this
    | some a=>
     obtain ⟨z1,z2,-,-⟩:=hs2 a rfl
     obtain ⟨g2,o,s'⟩:=a
     simp only at z1 z2
     subst z1 z2
     exact ⟨g2,rfl⟩
   rw [hsh] at hd hdo
   have hdx:=hd
   obtain ⟨e0,e1,e2⟩:=hdx.c_at Kb.out
   have hd3:=hdx.setAt Kb.out
   obtain ⟨x0,hx0⟩:∃x0,x0=(r.F[k].data)[q]'Kb.out:=⟨_,rfl⟩
   rw [←hx0] at e0
   simp only [byteV] at e0
   have hfl:=flipU_val x0 m
   obtain ⟨y0,hy0⟩:∃y0,y0=flipU x0 m:=⟨_,rfl⟩
   rw [←hy0] at hfl
   have hset:=HR.out.setData Kc.out hkl (w1:=(w2.setCell ⟨g2,q,none⟩ (byteV y0)).drew) (dv':=.slice (some ⟨g2,0,none⟩) r.F[k].data.length cap2) (data':=r.F[k].data.set q y0)
    (((hu.mono (T:=fun b=>r.F[k].dv.ownBlock=some b) (fun _ _ h=>h.elim)).setCell (p:=⟨g2,q,none⟩) (fun h=>by have h1:=hdo g2 rfl;have h2:g2<w.heap.size:=h;omega) _).drew)
    ((hd3 y0).of_block (fun k hk=>rfl)) (fun b hb=>.inr (hdo b hb)) (by have h1:=HR.out.room;rw [List.length_set];omega) (by rw [List.length_set];exact HR.out.synced _ (List.getElem_mem hkl))
   have hsn:Sorted (r.F.set k ⟨r.F[k].name,.slice (some ⟨g2,0,none⟩) r.F[k].data.length cap2,r.F[k].data.set q y0,r.F[k].synced⟩):=sorted_names hso (set_name r.F hkl rfl)
   rw [hsh]
   have hgl2:g<w2.heap.size:=Nat.lt_of_lt_of_le hg hu.size
   have hne:g≠g2:=fun e=>by have h1:=hdo g2 rfl;omega
   have fg:w2.frozen? ⟨g,k*3+1,none⟩=false:=by
    have hb:w2.heap[g]? = w.heap[g]?:=hu.block g hg (fun h=>h)
    rcases HR.out.files.row.2 with ⟨e,hz⟩|⟨g',cap',cur,e,-,hg',-⟩
    ·omega
    ·rw [Kc.out] at e;injection e with e1 _ _;injection e1 with e1;injection e1 with e1;subst e1
     exact frozen_of_row _ _ _ _ _ (hb.trans hg')
   have d1':w2.cell? ⟨g,k*3+1,none⟩=some (.slice po L pc):=(World.cell?_of_block (a:=⟨g,k*3+1,none⟩) (hu.block g hg (fun h=>h))).trans d1
   have c1':w2.cell? ⟨r.p,1,none⟩=some (.slice (some ⟨g,0,none⟩) r.F.length cap):=(World.cell?_of_block (a:=⟨r.p,1,none⟩) (hu.block r.p hp (fun h=>h))).trans c1
   have hp2:r.p<w2.heap.size:=Nat.lt_of_lt_of_le hp hu.size
   have hpg:r.p≠g2:=fun e=>by have h1:=hdo g2 rfl;omega
   rw [←HL.out] at hset hsn⊢
   have Kf:=hid hset;have Ki:=hid hsn;have Kj:=hid hy0;have Kk:=hid hx0;have Kl:=hid hfl
   clear hd hdo hu hsh hn2 hs2 hdx hd3 hx0 hy0 hfl hset hsn d0 d1 d2 c1
   go_upto_region 10 with fail
   go_region
   all_goals
    rw [←Kl.out]
    obtain ⟨w3,hw3⟩:∃w3,w3=(w2.setCell ⟨g2,q,none⟩ (.int .u8 (y0.toNat:Int))).drew:=⟨_,rfl⟩
    rw [←hw3]
    have hset:RStep w (w3.setCell ⟨g,k*3+1,none⟩ (.slice (some ⟨g2,0,none⟩) L cap2)) r { r with F:=r.F.set k ⟨r.F[k].name,.slice (some ⟨g2,0,none⟩) L cap2,r.F[k].data.set q y0,r.F[k].synced⟩ }:=by rw [hw3];exact Kf.out
    have f1:w3.frozen? ⟨g,k*3+1,none⟩=false:=by rw [hw3];exact (World.frozen?_of_block (a:=⟨g,k*3+1,none⟩) (heap_setCell_ne w2 ⟨g2,q,none⟩ _ g hne)).trans fg
    have f2:w3.cell? ⟨g,k*3+1,none⟩=some (.slice po L pc):=by rw [hw3];exact (World.cell?_of_block (a:=⟨g,k*3+1,none⟩) (heap_setCell_ne w2 ⟨g2,q,none⟩ _ g hne)).trans d1'
    have f3:w3.cell? ⟨r.p,1,none⟩=some (.slice (some ⟨g,0,none⟩) r.F.length cap):=by rw [hw3];exact (World.cell?_of_block (a:=⟨r.p,1,none⟩) (heap_setCell_ne w2 ⟨g2,q,none⟩ _ r.p hpg)).trans c1'
    have f4:g<w3.heap.size:=by rw [hw3];simpa using hgl2
    have f5:r.p<w3.heap.size:=by rw [hw3];simpa using hp2
    have HS:=hid hset
    clear hset hw3
    go_wp2
    go_ret
    rw [HC.out]
    refine ⟨rfl,_,HS.out,⟨rfl,?_,rfl,rfl,rfl⟩,Ki.out⟩
    show List.Perm (List.map FV.abs _) (updA r.abs.files n (flipF b))
    rw [Ke.out,map_set_abs]
    have h1:=Kg.out;have h2:=Kh.out;have h3:=Kk.out;have h4:=Kj.out
    have hlt:=Kb.out
    subst h1 h2
    have e9:(FV.mk r.F[k].name (.slice (some ⟨g2,0,none⟩) L cap2) (r.F[k].data.set (b / 8) y0) r.F[k].synced).abs=flipF b r.F[k].abs:=by
     unfold flipF
     rw [h4,h3]
     simp [FV.abs,List.getD,List.getElem?_eq_getElem hlt]
    rw [e9]
end Go.Proofs.YtgaidmohdhaonaaGreatDoor
