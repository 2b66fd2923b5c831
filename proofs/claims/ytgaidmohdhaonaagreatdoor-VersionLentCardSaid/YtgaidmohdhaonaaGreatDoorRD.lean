/-
  Package strataref4, walked: the document's disk in memory; Name, used, at, Free.
  Package strataref4, walked: Name, Free, New, Arm, last, asked, there.
  Package strataref4, walked: New, Arm, last, asked, there.
  Package strataref4, walked: drop.
  Package strataref4, walked: put.
-/
import Derived.Test.YtgaidmohdhaonaaGreatDoorRA
import Derived.Deep.DeepCutAuto
import Derived.Laws.AppendOwnNone
set_option linter.unusedVariables false
set_option linter.unusedSimpArgs false
set_option linter.unnecessarySimpa false
set_option linter.unusedSectionVars false
set_option maxRecDepth 100000
set_option maxHeartbeats 1600000
namespace Go.Proofs.YtgaidmohdhaonaaGreatDoor
open Go Go.RowKit
structure RS where
 p:Nat
 base:Nat
 room:Nat
 fv:Value
 F:List FV
 off:Bool
 armed:Int
 cnt:Cnt
def usedR (l:List FV):Nat:=(l.map (·.data.length)).sum
def RS.cells (r:RS):Array Value:=#[.int .i64 r.room,r.fv,.bool r.off,.int .i64 r.armed,.int .i64 r.cnt.acts,.int .i64 r.cnt.appends,.int .i64 r.cnt.syncs,.int .i64 r.cnt.renames,.int .i64 r.cnt.deletes,.int .i64 r.cnt.reads]
def RS.own (r:RS) (k:Nat):Prop:=k=r.p∨ownFiles r.fv r.F k
structure RS.In (w:World) (r:RS):Prop where
 top:w.heap[r.p]? = some (.cells r.cells 187 (0,0))
 files:FilesAt w r.base r.fv r.F
 base:r.base≤w.heap.size
 apart:¬ownFiles r.fv r.F r.p
 count:r.F.length≤256
 room:usedR r.F≤r.room
 cap:r.room≤67108864
 armed:0≤r.armed∧r.armed≤9223372036854775807
 synced:∀f∈r.F,f.synced≤f.data.length
theorem RS.In.lt {w:World} {r:RS} (h:r.In w) {k:Nat} (hk:r.own k):k<w.heap.size:=hk.elim (fun e=>by subst e;exact lt_of_heap h.top) (fun hk=>h.files.own_lt hk)
theorem RS.In.upd {S:Nat→Prop} {w w':World} {r:RS} (h:r.In w) (hu:Upd S w w') (hn:∀k,r.own k→¬S k):r.In w':=
 ⟨hu.get h.top (hn _ (.inl rfl)),h.files.keep hu (fun k hk=>hn k (.inr hk)),Nat.le_trans h.base hu.size,h.apart,h.count,h.room,h.cap,h.armed,h.synced⟩
structure RStep (w w':World) (r r2:RS):Prop where
 ins:r2.In w'
 p:r2.p=r.p
 upd:Upd r.own w w'
 foot:∀k,r2.own k→r.own k∨w.heap.size≤k
theorem RStep.refl {w:World} {r:RS} (h:r.In w):RStep w w r r:=⟨h,rfl,Upd.refl _ _,fun _ hk=>.inl hk⟩
theorem RStep.of_upd {w w1:World} {r:RS} (h:r.In w) (hu:Upd (fun _=>False) w w1):RStep w w1 r r:=
 ⟨h.upd hu (fun _ _ h=>h),rfl,hu.mono (fun _ _ h=>h.elim),fun _ hk=>.inl hk⟩
theorem RStep.trans {w w1 w2:World} {r r1 r2:RS} (h:RStep w w1 r r1) (h':RStep w1 w2 r1 r2):RStep w w2 r r2:=
 ⟨h'.ins,h'.p.trans h.p,h.upd.trans h'.upd (fun k hk hm=>(h.foot k hm).elim id (fun h2=>by omega)),
  fun k hk=>(h'.foot k hk).elim (h.foot k) (fun h2=>.inr (Nat.le_trans h.upd.size h2))⟩
section
variable {w:World} {r:RS}
theorem RS.In.cell (h:r.In w) (i:Nat):w.cell? ⟨r.p,i,none⟩=r.cells[i]?:=cell_of_row w r.p i _ _ _ h.top
theorem RS.In.free (h:r.In w) (i:Nat):w.frozen? ⟨r.p,i,none⟩=false:=frozen_of_row w r.p i _ _ h.top
theorem RS.In.c_room (h:r.In w):w.cell? ⟨r.p,0,none⟩=some (.int .i64 r.room):=h.cell 0
theorem RS.In.c_f (h:r.In w):w.cell? ⟨r.p,1,none⟩=some r.fv:=h.cell 1
theorem RS.In.c_off (h:r.In w):w.cell? ⟨r.p,2,none⟩=some (.bool r.off):=h.cell 2
theorem RS.In.c_armed (h:r.In w):w.cell? ⟨r.p,3,none⟩=some (.int .i64 r.armed):=h.cell 3
theorem RS.In.plt (h:r.In w):r.p<w.heap.size:=lt_of_heap h.top
end
theorem RS.In.at {w:World} {r:RS} (h:r.In w):∃ao cap,r.fv=.slice ao r.F.length cap∧r.F.length≤cap∧∀k (hk:k<r.F.length),∃g,ao=some ⟨g,0,none⟩∧g<w.heap.size∧g≠r.p∧
  w.cell? ⟨g,k*3,none⟩=some (.string r.F[k].name)∧w.cell? ⟨g,k*3+1,none⟩=some r.F[k].dv∧w.cell? ⟨g,k*3+2,none⟩=some (.int .i64 r.F[k].synced):=by
 obtain ⟨ao,cap,hv,h1,-,h2⟩:=h.files.shape
 refine ⟨ao,cap,hv,h1,fun k hk=>?_⟩
 obtain ⟨g,e,-,h3,h4,h5,h6⟩:=h2 k hk
 exact ⟨g,e,h3,fun e'=>h.apart (.inl (by rw [hv,e,e'];rfl)),h4,h5,h6⟩
theorem usedR_step (l:List FV) (k:Nat) (h:k<l.length):usedR (l.take (k+1))=usedR (l.take k)+l[k].data.length:=by
 simp only [usedR]
 rw [List.take_succ_eq_append_getElem h,List.map_append,List.sum_append]
 simp
theorem usedR_le (l:List FV) (k:Nat):usedR (l.take k)≤usedR l:=by
 have h:=congrArg (fun t=>usedR t) (List.take_append_drop k l)
 simp only [usedR,List.map_append,List.sum_append] at h⊢
 omega
theorem refUsed_any {w:World} {r:RS} (hr:r.In w) :
  Calls Tryz.prog 152 #[.pointer (some ⟨r.p,0,none⟩)] w fun e w'=>e=.returned (.int .i64 (usedR r.F))∧w'=w:=by
 obtain ⟨ao,cap,hfv,hcap,hat⟩:=hr.at
 have c1:=hr.c_f
 rw [hfv] at c1
 have hrm:=hr.room;have hcp:=hr.cap;have hct:=hr.count
 have Ka:=hid hat;have HR:=hid hr
 clear hat hr hfv
 go_enter Tryz.func152,Tryz.ntmps152
 go_wp2
 go_loopw [3,4] (fun sv i wr=>∃k:Nat,k≤r.F.length∧i=.int .i64 k∧sv=.int .i64 (usedR (r.F.take k))∧wr=w) (fun _ i _=>r.F.length-(intOf i).toNat)
 case atStart=>exact ⟨0,Nat.zero_le _,rfl,by simp [usedR],rfl⟩
 case round=>
  obtain ⟨k,hk,rfl,rfl,hwe⟩:=hrel
  obtain rfl:=hwe.symm
  by_cases hlt:k<r.F.length
  ·obtain ⟨g,rfl,hg,hgp,d0,d1,d2⟩:=Ka.out k hlt
   obtain ⟨p1,q1,hv1,-,-,-,-⟩:=(HR.out.files.data r.F[k] (List.getElem_mem hlt)).shape
   rw [hv1] at d1
   have hst:=usedR_step r.F k hlt
   have hle:=usedR_le r.F (k+1)
   obtain ⟨L,hL⟩:∃L,L=r.F[k].data.length:=⟨_,rfl⟩
   obtain ⟨U,hU⟩:∃U,U=usedR (r.F.take k):=⟨_,rfl⟩
   rw [←hL] at d1 hst
   rw [←hU] at hst⊢
   have hb:U+L≤67108864:=by omega
   have Kb:=hid hst
   clear hst hle hL hU hv1 d0 d2
   go_wp2
   go_roundw
   case rel=>exact ⟨k+1,by omega,by go_num,by rw [Kb.out];go_num,by first|rfl|trivial⟩
   case measure=>simp [intOf];omega
  ·obtain rfl:k=r.F.length:=by omega
   rw [List.take_length]
   go_wp2
   go_ret
   exact ⟨rfl,by first|rfl|trivial⟩
def atR (l:List FV) (n:ByteArray):Int:=match l.findIdx? (fun f=>f.name==n) with|some i=>(i:Int)|none=>-1
theorem atR_none {l:List FV} {n:ByteArray} (h:∀f∈l,f.name≠n):atR l n = -1:=by
 unfold atR
 have:l.findIdx? (fun f=>f.name==n)=none:=by
  rw [List.findIdx?_eq_none_iff]
  intro f hf
  simp [beq_bytes,h f hf]
 rw [this]
theorem atR_some {l:List FV} {n:ByteArray} {k:Nat} (hk:k<l.length) (h:∀j (hj:j<l.length),j<k→l[j].name≠n) (hn:l[k].name=n):atR l n=k:=by
 unfold atR
 have:l.findIdx? (fun f=>f.name==n)=some k:=by
  rw [List.findIdx?_eq_some_iff_getElem]
  exact ⟨hk,by simp [beq_bytes,hn],fun j hj=>by simp [beq_bytes,h j (by omega) hj]⟩
 rw [this]
theorem refAt_any {w : World} {r : RS} (hr : r.In w) (n : ByteArray) :
    Calls Tryz.prog 151 #[.pointer (some ⟨r.p,0,none⟩),.string n] w fun e w'=>e=.returned (.int .i64 (atR r.F n))∧w'=w:=by
  obtain ⟨ao,cap,hfv,hcap,hat⟩:=hr.at
  have c1:=hr.c_f
  rw [hfv] at c1
  have hct:=hr.count
  have Kb:=hid hat;have HR:=hid hr
  clear hat hr hfv
  go_enter Tryz.func151,Tryz.ntmps151
  go_wp2
  go_loopw [5] (fun i wr=>∃k:Nat,k≤r.F.length∧i=.int .i64 k∧(∀j (hj:j<r.F.length),j<k→r.F[j].name≠n)∧wr=w) (fun i _=>r.F.length-(intOf i).toNat)
  case atStart=>exact ⟨0,Nat.zero_le _,rfl,by simp,rfl⟩
  case round=>
    obtain ⟨k,hk,rfl,hno,hwe⟩:=hrel
    obtain rfl:=hwe.symm
    have Ka:=hid hno
    clear hno
    by_cases hlt:k<r.F.length
    · obtain ⟨g,rfl,hg,hgp,d0,d1,d2⟩:=Kb.out k hlt
      have hq:=beq_toList r.F[k].name n
      by_cases he:r.F[k].name=n
      · rw [decide_eq_true he] at hq
        have HE:=hid (atR_some hlt Ka.out he)
        clear he d1 d2
        go_wp2
        go_ret
        exact ⟨by rw [HE.out];rfl,by first|rfl|trivial⟩
      · rw [decide_eq_false he] at hq
        have HE:=hid he
        clear he d1 d2
        go_wp2
        go_roundw
        case rel => exact ⟨k + 1, by omega, by go_num, fun j hj hjk => by rcases Nat.lt_or_eq_of_le (Nat.le_of_lt_succ hjk) with h | h
                                                                          · exact Ka.out j hj h
                                                                          · subst h;exact HE.out,by first|rfl|trivial⟩
        case measure=>simp [intOf];omega
    · obtain rfl:k=r.F.length:=by omega
      have HE:=hid (atR_none (l:=r.F) (n:=n) (fun f hf=>by obtain ⟨j,hj,rfl⟩:=List.getElem_of_mem hf;exact Ka.out j hj hj))
      go_wp2
      go_ret
      exact ⟨by rw [HE.out];rfl,by first|rfl|trivial⟩
theorem nb_iff' (c:UInt8):nameByte c=true↔((97≤(c.toNat:Int)∧(c.toNat:Int)≤122)∨(65≤(c.toNat:Int)∧(c.toNat:Int)≤90)∨(48≤(c.toNat:Int)∧(c.toNat:Int)≤57)∨(c.toNat:Int)=46∨(c.toNat:Int)=45∨(c.toNat:Int)=95∨(c.toNat:Int)=47):=by
 have e1:c=46↔c.toNat=46:=⟨fun h=>by rw [h];rfl,fun h=>UInt8.toNat_inj.1 (by rw [h];rfl)⟩
 have e2:c=45↔c.toNat=45:=⟨fun h=>by rw [h];rfl,fun h=>UInt8.toNat_inj.1 (by rw [h];rfl)⟩
 have e3:c=95↔c.toNat=95:=⟨fun h=>by rw [h];rfl,fun h=>UInt8.toNat_inj.1 (by rw [h];rfl)⟩
 have e4:c=47↔c.toNat=47:=⟨fun h=>by rw [h];rfl,fun h=>UInt8.toNat_inj.1 (by rw [h];rfl)⟩
 simp [nameByte,UInt8.le_iff_toNat_le,e1,e2,e3,e4]
 omega
theorem refName_any (s : ByteArray) (w : World) :
    Calls Tryz.prog 150 #[.string s] w fun e w'=>e=.returned (.bool (nameOk s.data.toList))∧w'=w:=by
  have hlen:s.data.toList.length=s.size:=by simp
  by_cases h0:s.size<1
  · have hr:nameOk s.data.toList=false:=by simp [nameOk,hlen];intro h;omega
    have HR:=hid hr;clear hr hlen
    go_enter Tryz.func150,Tryz.ntmps150
    go_wp2
    go_ret
    exact ⟨by rw [HR.out];rfl,rfl⟩
  by_cases h1:s.size > 64
  · have hr:nameOk s.data.toList=false:=by simp [nameOk,hlen];intro _ h;omega
    have HR:=hid hr;clear hr hlen
    have h1':(64:Int)<(s.size:Int):=by omega
    have h0':¬((s.size:Int)<1):=by omega
    go_enter Tryz.func150,Tryz.ntmps150
    go_wp2
    go_ret
    exact ⟨by rw [HR.out];rfl,rfl⟩
  have hb0:1≤s.size:=by omega
  have hb1:s.size≤64:=by omega
  clear h0 h1
  have HL:=hid hlen;clear hlen
  go_enter Tryz.func150,Tryz.ntmps150
  go_wp2
  go_loop [3] (fun i=>∃k:Nat,k≤s.size∧i=.int .i64 k∧(s.data.toList.take k).all nameByte=true) (fun i=>s.size-(intOf i).toNat)
  case atStart=>exact ⟨0,by omega,rfl,by simp⟩
  case round=>
    obtain ⟨k,hk,rfl,hall⟩:=hrel
    have HA:=hid hall;clear hall
    by_cases hlt:k<s.size
    · have hst:=take_all_step s k hlt
      have HS:=hid hst;clear hst
      have hcls:(97≤((s[k].toNat:Nat):Int)∧((s[k].toNat:Nat):Int)≤122)∨(65≤((s[k].toNat:Nat):Int)∧((s[k].toNat:Nat):Int)≤90)∨(48≤((s[k].toNat:Nat):Int)∧((s[k].toNat:Nat):Int)≤57)∨((s[k].toNat:Nat):Int)=46∨((s[k].toNat:Nat):Int)=45∨((s[k].toNat:Nat):Int)=95∨((s[k].toNat:Nat):Int)=47∨122<((s[k].toNat:Nat):Int)∨(((s[k].toNat:Nat):Int)<97∧90<((s[k].toNat:Nat):Int)∧((s[k].toNat:Nat):Int)≠95)∨(((s[k].toNat:Nat):Int)<65∧57<((s[k].toNat:Nat):Int))∨(((s[k].toNat:Nat):Int)<48∧((s[k].toNat:Nat):Int)≠45∧((s[k].toNat:Nat):Int)≠46∧((s[k].toNat:Nat):Int)≠47):=by omega
      rcases hcls with hq|hq|hq|hq|hq|hq|hq|hq|hq|hq|hq
      all_goals
        (first|(have f0:(97:Int)≤((s[k].toNat:Nat):Int):=by omega)|(have f0:¬(97:Int)≤((s[k].toNat:Nat):Int):=by omega))
        (first|(have f1:((s[k].toNat:Nat):Int)≤(122:Int):=by omega)|(have f1:¬((s[k].toNat:Nat):Int)≤(122:Int):=by omega))
        (first|(have f2:(65:Int)≤((s[k].toNat:Nat):Int):=by omega)|(have f2:¬(65:Int)≤((s[k].toNat:Nat):Int):=by omega))
        (first|(have f3:((s[k].toNat:Nat):Int)≤(90:Int):=by omega)|(have f3:¬((s[k].toNat:Nat):Int)≤(90:Int):=by omega))
        (first|(have f4:(48:Int)≤((s[k].toNat:Nat):Int):=by omega)|(have f4:¬(48:Int)≤((s[k].toNat:Nat):Int):=by omega))
        (first|(have f5:((s[k].toNat:Nat):Int)≤(57:Int):=by omega)|(have f5:¬((s[k].toNat:Nat):Int)≤(57:Int):=by omega))
        (first|(have g0:(((s[k].toNat:Nat):Int) != (46:Int))=true:=by simp;omega)|(have g0:(((s[k].toNat:Nat):Int) != (46:Int))=false:=by simp;omega))
        (first|(have h0:((s[k].toNat:Nat):Int)=(46:Int):=by omega)|(have h0:¬((s[k].toNat:Nat):Int)=(46:Int):=by omega))
        (first|(have g1:(((s[k].toNat:Nat):Int) != (45:Int))=true:=by simp;omega)|(have g1:(((s[k].toNat:Nat):Int) != (45:Int))=false:=by simp;omega))
        (first|(have h1:((s[k].toNat:Nat):Int)=(45:Int):=by omega)|(have h1:¬((s[k].toNat:Nat):Int)=(45:Int):=by omega))
        (first|(have g2:(((s[k].toNat:Nat):Int) != (95:Int))=true:=by simp;omega)|(have g2:(((s[k].toNat:Nat):Int) != (95:Int))=false:=by simp;omega))
        (first|(have h2:((s[k].toNat:Nat):Int)=(95:Int):=by omega)|(have h2:¬((s[k].toNat:Nat):Int)=(95:Int):=by omega))
        (first|(have g3:(((s[k].toNat:Nat):Int) != (47:Int))=true:=by simp;omega)|(have g3:(((s[k].toNat:Nat):Int) != (47:Int))=false:=by simp;omega))
        (first|(have h3:((s[k].toNat:Nat):Int)=(47:Int):=by omega)|(have h3:¬((s[k].toNat:Nat):Int)=(47:Int):=by omega))
        clear hq
        go_wp2
        first
          | (go_round
             case rel => exact ⟨k + 1, by omega, by go_num, by rw [HS.out, HA.out]; exact (nb_iff' _).2 (by omega)⟩
             case measure => simp [intOf]; omega)
          | (go_ret
             have hf : nameByte s[k] = false := by rw [← Bool.not_eq_true]; exact fun h => by have := (nb_iff' _).1 h; omega
             exact ⟨by rw [no_name s k hlt hf]; rfl, rfl⟩)
    · obtain rfl:k=s.size:=by omega
      go_wp2
      go_ret
      exact ⟨by rw [yes_name s hb0 hb1 HA.out];rfl,rfl⟩
theorem RS.In.turned {w w':World} {r r2:RS} (h:r.In w) (hu:Upd (fun k=>k=r.p) w w') (hp:r2.p=r.p) (hb:r2.base=r.base) (hfv:r2.fv=r.fv) (hF:r2.F=r.F) (hroom:r2.room=r.room)
  (htop:w'.heap[r.p]? = some (.cells r2.cells 187 (0,0))) (harm:0≤r2.armed∧r2.armed≤9223372036854775807):RStep w w' r r2:=by
 refine ⟨⟨by rw [hp];exact htop,?_,by rw [hb];exact Nat.le_trans h.base hu.size,by rw [hfv,hF,hp];exact h.apart,by rw [hF];exact h.count,by rw [hF,hroom];exact h.room,by rw [hroom];exact h.cap,harm,by rw [hF];exact h.synced⟩,hp,hu.mono (fun k _ e=>.inl e),fun k hk=>.inl ?_⟩
 ·rw [hfv,hF,hb]
  exact h.files.keep hu (fun k hk e=>h.apart (e ▸ hk))
 ·unfold RS.own at hk⊢
  rw [hp,hfv,hF] at hk
  exact hk
theorem refAsked_any {w:World} {r:RS} (hr:r.In w) (n:ByteArray) :
  Calls Tryz.prog 164 #[.pointer (some ⟨r.p,0,none⟩),.string n] w fun e w'=>e=.returned (.int .i64 (lookRes r.off (nameOk n.data.toList) false false))∧w'=w:=by
 have c2:=hr.c_off
 have HN:=hid (refName_any n w)
 clear hr
 generalize r.off=d at c2⊢
 generalize nameOk n.data.toList=ok at HN⊢
 cases d with
 | true=>
  go_enter Tryz.func164,Tryz.ntmps164
  go_wp2
  go_ret
  exact ⟨rfl,rfl⟩
 | false=>
  cases ok with
  | false=>
   go_enter Tryz.func164,Tryz.ntmps164
   go_wp2_with (go_at_call 150;refine HN.out.mono ?_;rintro e w' ⟨rfl,hww⟩;obtain rfl:=hww.symm)
   go_ret
   exact ⟨rfl,rfl⟩
  | true=>
   go_enter Tryz.func164,Tryz.ntmps164
   go_wp2_with (go_at_call 150;refine HN.out.mono ?_;rintro e w' ⟨rfl,hww⟩;obtain rfl:=hww.symm)
   go_ret
   exact ⟨rfl,rfl⟩
theorem refThere_any {w:World} {r:RS} (hr:r.In w) (n:ByteArray) :
  Calls Tryz.prog 178 #[.pointer (some ⟨r.p,0,none⟩),.string n] w fun e w'=>e=.returned (.int .i64 (lookRes r.off (nameOk n.data.toList) true (decide (0≤atR r.F n))))∧w'=w:=by
 have HA:=hid (refAsked_any hr n)
 have HB:=hid (refAt_any hr n)
 clear hr
 generalize r.off=d at HA⊢
 generalize nameOk n.data.toList=ok at HA⊢
 generalize atR r.F n=i at HB⊢
 cases d with
 | true=>
  have hl:lookRes true ok false false=3:=rfl
  rw [hl] at HA
  go_enter Tryz.func178,Tryz.ntmps178
  go_wp2_with (go_at_call 164;refine HA.out.mono ?_;rintro e w' ⟨rfl,hww⟩;obtain rfl:=hww.symm)
  go_ret
  exact ⟨rfl,rfl⟩
 | false=>
  cases ok with
  | false=>
   have hl:lookRes false false false false=40:=rfl
   rw [hl] at HA
   go_enter Tryz.func178,Tryz.ntmps178
   go_wp2_with (go_at_call 164;refine HA.out.mono ?_;rintro e w' ⟨rfl,hww⟩;obtain rfl:=hww.symm)
   go_ret
   exact ⟨rfl,rfl⟩
  | true=>
   have hl:lookRes false true false false=0:=rfl
   rw [hl] at HA
   by_cases hi:i<0
   ·have hd:decide (0≤i)=false:=by simp;omega
    rw [hd]
    go_enter Tryz.func178,Tryz.ntmps178
    go_wp2_with (first|(go_at_call 164;refine HA.out.mono ?_;rintro e w' ⟨rfl,hww⟩;obtain rfl:=hww.symm)|(go_at_call 151;refine HB.out.mono ?_;rintro e w' ⟨rfl,hww⟩;obtain rfl:=hww.symm))
    go_ret
    exact ⟨rfl,rfl⟩
   ·have hd:decide (0≤i)=true:=by simp;omega
    rw [hd]
    go_enter Tryz.func178,Tryz.ntmps178
    go_wp2_with (first|(go_at_call 164;refine HA.out.mono ?_;rintro e w' ⟨rfl,hww⟩;obtain rfl:=hww.symm)|(go_at_call 151;refine HB.out.mono ?_;rintro e w' ⟨rfl,hww⟩;obtain rfl:=hww.symm))
    go_ret
    exact ⟨rfl,rfl⟩
def lastR (r:RS):Bool×RS:=if r.armed=0 then (false,r) else if r.armed=1 then (true,{ r with armed:=0,off:=true }) else (r.off,{ r with armed:=r.armed-1 })
theorem refLast_any {w:World} {r:RS} (hr:r.In w) :
  Calls Tryz.prog 165 #[.pointer (some ⟨r.p,0,none⟩)] w fun e w'=>e=.returned (.bool (lastR r).1)∧RStep w w' r (lastR r).2:=by
 have c2:=hr.c_off
 have c3:=hr.c_armed
 have f2:=hr.free 2
 have f3:=hr.free 3
 have hp:=hr.plt
 have har:=hr.armed
 have HR:=hid hr
 clear hr
 unfold lastR
 by_cases h0:r.armed=0
 ·rw [if_pos h0]
  have hb:(r.armed==(0:Int))=true:=by simpa using h0
  clear h0
  go_enter Tryz.func165,Tryz.ntmps165
  go_wp2
  go_ret
  exact ⟨rfl,RStep.refl HR.out⟩
 rw [if_neg h0]
 have hb:(r.armed==(0:Int))=false:=by simpa using h0
 by_cases h1:r.armed=1
 ·rw [if_pos h1]
  rw [h1] at c3
  clear hb h0
  go_enter Tryz.func165,Tryz.ntmps165
  go_wp2
  go_ret
  exact ⟨rfl,HR.out.turned ((Upd.cell_only _ _ _ _).setCell (p:=⟨r.p,2,none⟩) (fun _=>rfl) _) rfl rfl rfl rfl rfl (heap_setCell_at _ _ _ _ _ _ (heap_setCell_at _ _ _ _ _ _ HR.out.top)) (show (0:Int)≤0∧(0:Int)≤9223372036854775807 by decide)⟩
 ·rw [if_neg h1]
  have hb1:(r.armed-1==(0:Int))=false:=by simp;omega
  have HB:=hid h0
  clear h0
  go_enter Tryz.func165,Tryz.ntmps165
  go_wp2
  go_ret
  exact ⟨rfl,HR.out.turned (Upd.cell_only _ _ _ _) rfl rfl rfl rfl rfl (heap_setCell_at _ _ _ _ _ _ HR.out.top) (show 0≤r.armed-1∧r.armed-1≤9223372036854775807 by have:=HB.out;omega)⟩
theorem refArm_any {w:World} {r:RS} (hr:r.In w) (n:Int) (hn:n≤9223372036854775807) :
  Calls Tryz.prog 116 #[.pointer (some ⟨r.p,0,none⟩),.int .i64 n] w fun e w'=>e=.returned (.tuple #[])∧RStep w w' r (if r.off then r else { r with armed:=max n 0 }):=by
 have cd:=hr.c_off
 have c3:=hr.c_armed
 have f3:=hr.free 3
 have hp:=hr.plt
 have HR:=hid hr
 clear hr
 by_cases hd:r.off=false
 ·rw [hd] at cd
  rw [if_neg (by simp [hd])]
  by_cases hneg:n<0
  ·have hm:max n 0=0:=by omega
   have hst:RStep w (w.setCell ⟨r.p,3,none⟩ (.int .i64 0)) r { r with armed:=max n 0 }:=
    HR.out.turned (Upd.cell_only _ _ _ _) rfl rfl rfl rfl rfl (by rw [hm];exact heap_setCell_at _ _ _ _ _ _ HR.out.top) ⟨by show 0≤max n 0;omega,by show max n 0≤_;omega⟩
   have H1:=hid hst
   clear hst hd hm
   go_enter Tryz.func116,Tryz.ntmps116
   go_wp2
   go_end0
   exact ⟨rfl,H1.out⟩
  ·have hm:max n 0=n:=by omega
   have hst:RStep w (w.setCell ⟨r.p,3,none⟩ (.int .i64 n)) r { r with armed:=max n 0 }:=
    HR.out.turned (Upd.cell_only _ _ _ _) rfl rfl rfl rfl rfl (by rw [hm];exact heap_setCell_at _ _ _ _ _ _ HR.out.top) ⟨by show 0≤max n 0;omega,by show max n 0≤_;omega⟩
   have H1:=hid hst
   clear hst hd hm
   go_enter Tryz.func116,Tryz.ntmps116
   go_wp2
   go_end0
   exact ⟨rfl,H1.out⟩
 ·have hd':r.off=true:=by simpa using hd
  rw [hd'] at cd
  rw [if_pos hd']
  clear hd hd'
  by_cases hneg:n<0
  ·go_enter Tryz.func116,Tryz.ntmps116
   go_wp2
   go_end0
   exact ⟨rfl,RStep.refl HR.out⟩
  ·go_enter Tryz.func116,Tryz.ntmps116
   go_wp2
   go_end0
   exact ⟨rfl,RStep.refl HR.out⟩
theorem refNew_yes (w:World) (n:Nat) (hn:n≤67108864) :
  Calls Tryz.prog 111 #[.int .i64 n] w fun e w'=>∃r:RS,e=.returned (.tuple #[.pointer (some ⟨r.p,0,none⟩),.int .i64 0])∧r.In w'∧r.room=n∧r.F=[]∧r.off=false∧r.armed=0∧r.cnt=⟨0,0,0,0,0,0⟩∧w.heap.size≤r.base∧(∀k,r.own k→w.heap.size≤k)∧Upd (fun _=>False) w w':=by
 have h1:¬((n:Int)<0):=by omega
 have h2:¬(67108864<(n:Int)):=by omega
 go_enter Tryz.func111,Tryz.ntmps111
 go_wp2
 go_ret2
 refine ⟨⟨w.heap.size,w.heap.size,n,.slice none 0 0,[],false,0,⟨0,0,0,0,0,0⟩⟩,rfl,⟨?_,⟨World.ownsRow_nil _ _ _ _,by simp,by simp [fvBlocks],by simp [fvBlocks,Value.ownBlock]⟩,?_,?_,by simp,by simp [usedR],hn,by simp,by simp⟩,rfl,rfl,rfl,rfl,rfl,Nat.le_refl _,?_,(Upd.refl _ _).alloc _⟩
 ·exact heap_alloc_new w _
 ·simp
 ·intro h
  rcases h with h|h
  ·cases h
  ·simp [fvBlocks] at h
 ·intro k hk
  rcases hk with rfl|h|h
  ·exact Nat.le_refl _
  ·cases h
  ·simp [fvBlocks] at h
theorem FilesAt.snoc2 {w w2:World} {base:Nat} {v v' dv':Value} {l:List FV} {nm:ByteArray} {bs:List UInt8} {sy:Nat} (h:FilesAt w base v l) (hb:base≤w.heap.size)
  (hd:DataIs w dv' bs) (hdo:∀k,dv'.ownBlock=some k→base≤k∧¬ownFiles v l k) (hg:(w.alloc (.cells #[.string nm,dv',.int .i64 sy] 185)).grownBy w2 v.ownBlock)
  (hown:w2.ownsRow base 185 3 v' (l.length+1) (l.flatMap FV.cells ++ [.string nm,dv',.int .i64 sy])) (hat:∀k,v'.ownBlock=some k→v.ownBlock=some k∨w.heap.size≤k) :
  FilesAt w2 base v' (l ++ [⟨nm,dv',bs,sy⟩]):=by
 have hup:Upd (fun k=>v.ownBlock=some k) w w2:=((Upd.refl _ _).alloc _).grown hg (fun k hk _=>hk)
 have hvlt:∀k,v.ownBlock=some k→k<w.heap.size:=fun k hk=>(h.row.lt k hk).2
 have hnd:=h.nodup
 rw [List.nodup_append] at hnd
 have hfl:∀k∈fvBlocks l,k<w.heap.size:=by
  intro k hk
  obtain ⟨f,hf,hk⟩:=mem_fvBlocks.1 hk
  exact (h.data f hf).lt k hk
 refine ⟨by simpa [FV.cells] using hown,?_,?_,?_⟩
 ·intro f hf
  simp only [List.mem_append,List.mem_singleton] at hf
  rcases hf with hf|rfl
  ·exact (h.data f hf).upd hup (fun k hk e=>hnd.2.2 k (by simp [e]) k (mem_fvBlocks.2 ⟨f,hf,hk⟩) rfl)
  ·exact hd.upd hup (fun k hk e=>(hdo k hk).2 (.inl e))
 ·intro k hk
  obtain ⟨f,hf,hk⟩:=mem_fvBlocks.1 hk
  simp only [List.mem_append,List.mem_singleton] at hf
  rcases hf with hf|rfl
  ·exact h.low k (mem_fvBlocks.2 ⟨f,hf,hk⟩)
  ·exact (hdo k hk).1
 ·have e:fvBlocks (l ++ [⟨nm,dv',bs,sy⟩])=fvBlocks l++dv'.ownBlock.toList:=by simp [fvBlocks]
  rw [e,List.nodup_append]
  refine ⟨by cases v'.ownBlock<;>simp,?_,?_⟩
  ·rw [List.nodup_append]
   refine ⟨hnd.2.1,by cases dv'.ownBlock<;>simp,?_⟩
   intro a ha b hb e
   have hb':dv'.ownBlock=some b:=by simpa using hb
   exact (hdo b hb').2 (.inr (e ▸ ha))
  ·intro a ha b hb e
   subst e
   have ha':v'.ownBlock=some a:=by simpa using ha
   simp only [List.mem_append,Option.mem_toList] at hb
   rcases hat a ha' with hv|hv
   ·rcases hb with hb|hb
    ·exact hnd.2.2 a (by simp [hv]) a hb rfl
    ·exact (hdo a hb).2 (.inl hv)
   ·rcases hb with hb|hb
    ·have:=hfl a hb;omega
    ·have:=hd.lt a hb;omega
theorem run_append_file2 {w:World} {base:Nat} {v dv':Value} {l:List FV} {nm:ByteArray} {bs:List UInt8} {sy:Nat} (h:FilesAt w base v l) (hb:base≤w.heap.size)
  (hd:DataIs w dv' bs) (hdo:∀k,dv'.ownBlock=some k→base≤k∧¬ownFiles v l k) (hlen:l.length≤1000000) (ty:TypeId) :
  ∃v' w3,(Builtin.append_ #[111,111] ty #[v,.slice (some ⟨w.heap.size,0,none⟩) 1 1]).run Tryz.prog (w.alloc (.cells #[.string nm,dv',.int .i64 sy] 185))=.ok v' w3∧
   FilesAt w3 base v' (l ++ [⟨nm,dv',bs,sy⟩])∧Upd (fun k=>v.ownBlock=some k) w w3∧(∀k,v'.ownBlock=some k→v.ownBlock=some k∨w.heap.size≤k):=by
 obtain ⟨i0,hi,hz0,hz1,hz2⟩:=info_parts Tryz.infoFile
 obtain ⟨aoc,capc,hdv,-,-,-,-⟩:=hd.shape
 obtain ⟨g,cap,w3,hr,hown,hgr,hat,hlt⟩:=run_append_lies (P:=Tryz.prog) (w:=w.alloc (.cells #[.string nm,dv',.int .i64 sy] 185)) 111 ty base 185 i0 _ 3 48 Tryz.underlying111 hi hz0 hz1 hz2 rfl (by omega) v l.length (l.flatMap FV.cells)
  ((owns_upd (S:=fun _=>False) h.row (Upd.refl _ _) (fun _ _ h=>h)).alloc _)
  ⟨w.heap.size,0,none⟩ 1 1 [.string nm,dv',.int .i64 sy] rfl (World.news_of_block (cs:=#[.string nm,dv',.int .i64 sy]) (t:=185) (fr:=(0,0)) (heap_alloc_new w _)) (by rw [hdv];simp [Value.oneCell'])
  (by omega) (by unfold maxLen;omega) (by omega) (by simp;omega) (w.heap.size+1) (by simp)
 have hat':∀k,(Value.slice (some ⟨g,0,none⟩) (l.length+1) cap).ownBlock=some k→v.ownBlock=some k∨w.heap.size≤k:=by
  intro k hk
  simp only [Value.ownBlock,Option.some.injEq] at hk
  subst hk
  rcases hat with h|h
  ·exact .inl h
  ·right;omega
 exact ⟨_,w3,hr,h.snoc2 hb hd hdo hgr hown hat',((Upd.refl _ _).alloc _).grown hgr (fun k hk _=>hk),hat'⟩
theorem wpList_append_runR {P:Program} {ops:Array Oper} {rest:List Oper} {o:Oper} {a:Act} {w:World} {Q:Exit→Act→World→Prop} (hg:o.guard=none) (s x:Operand) (t:TypeId)
  (hop:o.op=Op.call { callee:=Callee.builtin Builtin.append,args:=#[s,x],argTypes:=#[t,t] }) {va vx v:Value} {w':World} (hs:a.eval s=va) (hx:a.eval x=vx)
  (hrun:(Builtin.append_ #[t,t] o.type #[va,vx]).run P w=.ok v w') (h:wpList P ops Q rest (a.put o.dst v) w'):wpList P ops Q (o :: rest) a w:=by
 refine wpList_plain hg fun K hK=>?_
 unfold Oper.wp
 simp [execOp,hop,resolve,invoke,builtin,hs,hx,hrun,Result.andThen]
 exact hK _ _ h
theorem fvBlocks_at {l:List FV} (hnd:(fvBlocks l).Nodup) {k:Nat} (hk:k<l.length) {b:Nat} (hb:l[k].dv.ownBlock=some b):b∉fvBlocks (l.take k):=by
 have h:=List.take_append_drop k l
 rw [List.drop_eq_getElem_cons hk] at h
 rw [←h] at hnd
 unfold fvBlocks at hnd⊢
 rw [List.flatMap_append,List.nodup_append] at hnd
 intro hm
 exact hnd.2.2 b hm b (List.mem_flatMap.2 ⟨l[k],List.mem_cons_self,by simp [hb]⟩) rfl
theorem fvBlocks_filter {l:List FV} {p:FV→Bool} {b:Nat} (h:b∈fvBlocks (l.filter p)):b∈fvBlocks l:=by
 obtain ⟨f,hf,hb⟩:=mem_fvBlocks.1 h
 exact mem_fvBlocks.2 ⟨f,(List.mem_filter.1 hf).1,hb⟩
theorem usedR_filter (l:List FV) (p:FV→Bool):usedR (l.filter p)≤usedR l:=by
 unfold usedR
 induction l with
 | nil=>simp
 | cons a t ih=>
  rw [List.filter_cons]
  split<;>simp<;>omega
def dropR (l:List FV) (n:ByteArray):List FV:=l.filter (fun f=>decide (f.name≠n))
theorem refDrop_any {w:World} {r:RS} (hr:r.In w) (n:ByteArray) :
  Calls Tryz.prog 179 #[.pointer (some ⟨r.p,0,none⟩),.string n] w fun e w'=>e=.returned (.tuple #[])∧∃fv',RStep w w' r { r with fv:=fv',F:=dropR r.F n }∧(∀b,fv'.ownBlock=some b→w.heap.size≤b)∧Upd (fun k=>k=r.p) w w':=by
 obtain ⟨ao,cap,hfv,hcap,hat⟩:=hr.at
 have c1:=hr.c_f
 rw [hfv] at c1
 have f1:=hr.free 1
 have hp:=hr.plt
 have hct:=hr.count
 have Kf:=hid hat;have HR:=hid hr
 clear hat hr hfv
 go_enter Tryz.func179,Tryz.ntmps179
 go_wp2
 go_loopw [4,5] (fun lv i wr=>∃k:Nat,k≤r.F.length∧i=.int .i64 k∧FilesAt wr r.base lv ((r.F.take k).filter (fun f=>decide (f.name≠n)))∧(∀b,lv.ownBlock=some b→w.heap.size≤b)∧Upd (fun _=>False) w wr) (fun _ i _=>r.F.length-(intOf i).toNat)
 case atStart=>exact ⟨0,Nat.zero_le _,rfl,by simpa using (⟨World.ownsRow_nil _ _ _ _,by simp,by simp [fvBlocks],by simp [fvBlocks,Value.ownBlock]⟩:FilesAt w r.base (.slice none 0 0) []),fun b hb=>(by cases hb),Upd.refl _ _⟩
 case round=>
  obtain ⟨k,hk,rfl,hfa,hlo,hup⟩:=hrel
  have Kc:=hid hfa;have Kb:=hid hlo;have Ka:=hid hup
  have hpr:r.p<wr.heap.size:=Nat.lt_of_lt_of_le hp hup.size
  have c1':wr.cell? ⟨r.p,1,none⟩=some (.slice ao r.F.length cap):=(World.cell?_of_block (a:=⟨r.p,1,none⟩) (hup.block r.p hp (fun h=>h))).trans c1
  have f1':wr.frozen? ⟨r.p,1,none⟩=false:=(World.frozen?_of_block (a:=⟨r.p,1,none⟩) (hup.block r.p hp (fun h=>h))).trans f1
  clear hfa hlo hup
  by_cases hlt:k<r.F.length
  ·obtain ⟨g,rfl,hg,hgp,d0,d1,d2⟩:=Kf.out k hlt
   have e0:=(World.cell?_of_block (a:=⟨g,k*3,none⟩) (Ka.out.block g hg (fun h=>h))).trans d0
   have e1:=(World.cell?_of_block (a:=⟨g,k*3+1,none⟩) (Ka.out.block g hg (fun h=>h))).trans d1
   have e2:=(World.cell?_of_block (a:=⟨g,k*3+2,none⟩) (Ka.out.block g hg (fun h=>h))).trans d2
   have hgr:g<wr.heap.size:=Nat.lt_of_lt_of_le hg Ka.out.size
   have hmem:r.F[k]∈r.F:=List.getElem_mem hlt
   have hstep:(r.F.take (k+1)).filter (fun f=>decide (f.name≠n))=(r.F.take k).filter (fun f=>decide (f.name≠n))++(if r.F[k].name≠n then [r.F[k]] else []):=by
    rw [List.take_succ_eq_append_getElem hlt,List.filter_append]
    congr 1
    by_cases h:r.F[k].name=n<;>simp [List.filter_cons,h]
   have Kd:=hid hstep
   have hq:=beq_toList r.F[k].name n
   clear d0 d1 d2 hstep
   by_cases he:r.F[k].name=n
   ·rw [decide_eq_true he] at hq
    have HE:=hid he
    clear he e1 e2
    go_wp2
    go_roundw
    case rel=>exact ⟨k+1,by omega,by go_num,by rw [Kd.out,if_neg (by simp [HE.out]),List.append_nil];exact Kc.out,Kb.out,Ka.out⟩
    case measure=>simp [intOf];omega
   ·rw [decide_eq_false he] at hq
    have HE:=hid he
    have hd:DataIs wr r.F[k].dv r.F[k].data:=(HR.out.files.data _ hmem).upd Ka.out (fun _ _ h=>h)
    have hndF:(fvBlocks r.F).Nodup:=(List.nodup_append.1 HR.out.files.nodup).2.1
    have hdo:∀b,r.F[k].dv.ownBlock=some b→r.base≤b∧¬ownFiles u4 ((r.F.take k).filter (fun f=>decide (f.name≠n))) b:=fun b hb=>
     ⟨HR.out.files.low b (mem_fvBlocks.2 ⟨_,hmem,hb⟩),fun ho=>ho.elim (fun h1=>by have:=Kb.out b h1;have:=(HR.out.files.data _ hmem).lt b hb;omega) (fun h1=>fvBlocks_at hndF hlt hb (fvBlocks_filter h1))⟩
    obtain ⟨v',w3,hrun,hfa3,hup3,hat3⟩:=run_append_file2 (nm:=r.F[k].name) (sy:=r.F[k].synced) Kc.out (Nat.le_trans HR.out.base Ka.out.size) hd hdo (by have h1:=List.length_filter_le (fun f:FV=>decide (f.name≠n)) (r.F.take k);simp at h1⊢;omega) 111
    obtain ⟨p1,q1,hv1,-,-,-,-⟩:=hd.shape
    rw [hv1] at e1 hrun
    obtain ⟨f,hf⟩:∃f,f=r.F[k]:=⟨_,rfl⟩
    have hfa4:FilesAt w3 r.base v' ((r.F.take (k+1)).filter (fun f=>decide (f.name≠n))):=by
     rw [Kd.out,if_pos HE.out]
     exact hfa3
    have H1:=hid hfa4;have H2:=hid hup3;have H3:=hid hat3
    rw [←hf] at e0 e1 e2 hq hrun
    clear he hd hndF hdo hfa3 hup3 hat3 hfa4 hv1 hmem hf
    have Ke:=hid hrun
    clear hrun
    go_wp2_with (at_builtin;refine wpList_append_runR rfl _ _ _ rfl rfl rfl Ke.out ?_)
    go_roundw
    case rel=>exact ⟨k+1,by omega,by go_num,H1.out,fun b hb=>(H3.out b hb).elim (Kb.out b) (fun h=>Nat.le_trans Ka.out.size h),Ka.out.trans H2.out (fun b hb e=>by have:=Kb.out b e;omega)⟩
    case measure=>simp [intOf];omega
  ·obtain rfl:k=r.F.length:=by omega
   rw [List.take_length] at Kc
   obtain ⟨al,cl,rfl,-,-,-⟩:=Kc.out.shape
   obtain ⟨LL,hLL⟩:∃LL,LL=(r.F.filter (fun f=>decide (f.name≠n))).length:=⟨_,rfl⟩
   rw [←hLL] at Kc Kb⊢
   have hst:RStep w (wr.setCell ⟨r.p,1,none⟩ (.slice al LL cl)) r { r with fv:=(.slice al LL cl),F:=dropR r.F n }:=by
    have hU:Upd (fun k=>k=r.p) w (wr.setCell ⟨r.p,1,none⟩ (.slice al LL cl)):=(Ka.out.mono (T:=fun k=>k=r.p) (fun _ _ h=>h.elim)).setCell (p:=⟨r.p,1,none⟩) (fun _=>rfl) (.slice al LL cl)
    have hpo:¬ownFiles (.slice al LL cl) (dropR r.F n) r.p:=fun h=>h.elim (fun h1=>by have:=Kb.out _ h1;omega) (fun h1=>HR.out.apart (.inr (fvBlocks_filter h1)))
    refine ⟨⟨?_,?_,?_,hpo,?_,?_,HR.out.cap,HR.out.armed,?_⟩,rfl,hU.mono (fun k _ e=>.inl e),?_⟩
    ·exact heap_setCell_at _ _ _ _ _ _ ((Ka.out.block r.p hp (fun h=>h)).trans HR.out.top)
    ·exact Kc.out.keep (Upd.cell_only wr r.p 1 (.slice al LL cl)) (fun k hk e=>hpo (e ▸ hk))
    ·exact Nat.le_trans HR.out.base hU.size
    ·exact Nat.le_trans (List.length_filter_le _ _) HR.out.count
    ·exact Nat.le_trans (usedR_filter _ _) HR.out.room
    ·intro f hf
     exact HR.out.synced f (List.mem_filter.1 hf).1
    ·intro b hb
     rcases hb with hb|hb|hb
     ·exact .inl (.inl hb)
     ·exact .inr (Kb.out b hb)
     ·exact .inl (.inr (.inr (fvBlocks_filter hb)))
   have HS:=hid hst
   have Kg:=hid ((Ka.out.mono (T:=fun k=>k=r.p) (fun _ _ h=>h.elim)).setCell (p:=⟨r.p,1,none⟩) (fun _=>rfl) (.slice al LL cl))
   clear hst hLL
   go_wp2
   go_end0
   exact ⟨rfl,_,HS.out,Kb.out,Kg.out⟩
theorem FilesAt.glue {w w2:World} {base:Nat} {v v2:Value} {l l2:List FV} (h:FilesAt w base v l) (h2:∀f∈l2,DataIs w f.dv f.data) (hlow:∀k∈fvBlocks l2,base≤k∧¬v.ownBlock=some k)
  (hnd:(fvBlocks (l++l2)).Nodup) (hg:w.grownBy w2 v.ownBlock) (hown:w2.ownsRow base 185 3 v2 (l.length+l2.length) (l.flatMap FV.cells++l2.flatMap FV.cells)) (hat:v2.ownBlock=v.ownBlock∨v2.ownBlock=some w.heap.size) :
  FilesAt w2 base v2 (l++l2):=by
 have hup:Upd (fun k=>v.ownBlock=some k) w w2:=(Upd.refl _ _).grown hg (fun k hk _=>hk)
 have hn:=h.nodup
 rw [List.nodup_append] at hn
 have hmem:∀k∈fvBlocks (l++l2),k<w.heap.size∧¬v.ownBlock=some k∧base≤k:=by
  intro k hk
  obtain ⟨f,hf,hk2⟩:=mem_fvBlocks.1 hk
  simp only [List.mem_append] at hf
  rcases hf with hf|hf
  ·exact ⟨(h.data f hf).lt k hk2,fun e=>hn.2.2 k (by simp [e]) k (mem_fvBlocks.2 ⟨f,hf,hk2⟩) rfl,h.low k (mem_fvBlocks.2 ⟨f,hf,hk2⟩)⟩
  ·have:=hlow k (mem_fvBlocks.2 ⟨f,hf,hk2⟩)
   exact ⟨(h2 f hf).lt k hk2,this.2,this.1⟩
 refine ⟨by rw [List.length_append,List.flatMap_append];exact hown,?_,fun k hk=>(hmem k hk).2.2,?_⟩
 ·intro f hf
  have hb:∀k,f.dv.ownBlock=some k→¬v.ownBlock=some k:=fun k hk=>(hmem k (mem_fvBlocks.2 ⟨f,hf,hk⟩)).2.1
  simp only [List.mem_append] at hf
  rcases hf with hf|hf
  ·exact (h.data f hf).upd hup hb
  ·exact (h2 f hf).upd hup hb
 ·rw [List.nodup_append]
  refine ⟨by cases v2.ownBlock<;>simp,hnd,?_⟩
  intro a ha b hb e
  subst e
  have ha':v2.ownBlock=some a:=by simpa using ha
  have hm:=hmem a hb
  rcases hat with h1|h1
  ·exact hm.2.1 (h1 ▸ ha')
  ·rw [h1] at ha'
   have:w.heap.size=a:=by simpa using ha'
   omega
theorem flatMap_drop (l:List FV):∀(k:Nat),(l.drop k).flatMap FV.cells=(l.flatMap FV.cells).drop (k*3):=by
 induction l with
 | nil=>intro k;simp
 | cons a t ih=>
  intro k
  match k with
  | 0=>simp
  | k+1=>
   rw [List.drop_succ_cons,ih k,List.flatMap_cons,List.drop_append]
   have h3:(FV.cells a).length=3:=rfl
   have e1:List.drop ((k+1)*3) (FV.cells a)=[]:=List.drop_eq_nil_of_le (by rw [h3];omega)
   rw [e1,h3,show (k+1)*3-3=k*3 by omega,List.nil_append]
theorem run_append_rest {w:World} {base:Nat} {v:Value} {l F:List FV} {g cap k c:Nat} (h:FilesAt w base v l) (hb:base≤w.heap.size) (hF:FilesAt w base (.slice (some ⟨g,0,none⟩) F.length cap) F) (hk:k≤F.length)
  (hgv:¬v.ownBlock=some g) (hlow:∀b∈fvBlocks (F.drop k),¬v.ownBlock=some b) (hnd:(fvBlocks (l++F.drop k)).Nodup) (hlen:l.length+F.length≤1000000) (ad:Addr) (had:k<F.length→ad=⟨g,k*3,none⟩) (ty:TypeId) :
  ∃v2 w2,(Builtin.append_ #[111,111] ty #[v,.slice (some ad) (F.length-k) c]).run Tryz.prog w=.ok v2 w2∧FilesAt w2 base v2 (l++F.drop k)∧Upd (fun b=>v.ownBlock=some b) w w2∧(v2.ownBlock=v.ownBlock∨v2.ownBlock=some w.heap.size):=by
 obtain ⟨i0,hi,hz0,hz1,hz2⟩:=info_parts Tryz.infoFile
 have hdl:(F.drop k).length=F.length-k:=by simp
 have h3:∀(t:List FV),(t.flatMap FV.cells).length=t.length*3:=by
  intro t
  induction t with
  | nil=>rfl
  | cons a t ih=>rw [List.flatMap_cons,List.length_append,ih];simp [FV.cells];omega
 obtain ⟨v2,w2,hr,hown,hgr,-,hat⟩:=run_append_own_at (P:=Tryz.prog) w base 111 ty 185 i0 _ 3 48 Tryz.underlying111 hi hz0 hz1 hz2 rfl (by omega) v l.length (l.flatMap FV.cells) h.row
  ad (F.length-k) c ((F.drop k).flatMap FV.cells) (by rw [h3,hdl]) (by
   intro j u hu
   rw [flatMap_drop,List.getElem?_drop] at hu
   have hjl:k*3+j<F.length*3:=by
    have:=(List.getElem?_eq_some_iff.1 hu).1
    rw [h3] at this;exact this
   have hkl:k<F.length:=by omega
   rw [had hkl,Addr.add_lit]
   obtain ⟨hl,hrow⟩:=hF.row
   rcases hrow with ⟨e,_⟩|⟨g',cap',cur,e,-,hg,-,-,-,ht⟩
   ·cases e
   ·injection e with e1 e2 e3
    injection e1 with e1
    injection e1 with e1
    subst e1
    rw [cell_of_row w _ _ _ _ _ hg,←Array.getElem?_toList]
    have:=congrArg (fun l=>l[k*3+j]?) ht
    simp only [List.getElem?_take] at this
    rw [if_pos hjl,hu] at this
    exact this) (by
   intro u hu
   obtain ⟨f,hf,hu2⟩:=List.mem_flatMap.1 hu
   obtain ⟨p1,q1,hv1,-,-,-,-⟩:=(hF.data f (List.mem_of_mem_drop hf)).shape
   simp only [FV.cells,List.mem_cons,List.not_mem_nil,or_false] at hu2
   rcases hu2 with rfl|rfl|rfl
   ·rfl
   ·rw [hv1];rfl
   ·rfl) (by unfold maxLen;omega) (by omega) hb
 refine ⟨v2,w2,hr,h.glue (fun f hf=>hF.data f (List.mem_of_mem_drop hf)) (fun b hb'=>⟨hF.low b ?_,hlow b hb'⟩) hnd hgr (by rw [hdl];exact hown) hat,(Upd.refl _ _).grown hgr (fun k hk _=>hk),hat⟩
 obtain ⟨f,hf,hb2⟩:=mem_fvBlocks.1 hb'
 exact mem_fvBlocks.2 ⟨f,List.mem_of_mem_drop hf,hb2⟩
def putPos (l:List FV) (n:ByteArray):Nat:=(l.takeWhile (fun f=>Op.bytesLess f.name.toList n.toList)).length
def putR (l:List FV) (f:FV):List FV:=l.take (putPos l f.name)++f :: l.drop (putPos l f.name)
theorem putPos_at:∀ {l:List FV} {n:ByteArray} {k:Nat},k≤l.length→(∀j (hj:j<l.length),j<k→Op.bytesLess l[j].name.toList n.toList=true)→(∀h:k<l.length,Op.bytesLess l[k].name.toList n.toList=false)→putPos l n=k
 | [],n,k,hk,_,_=>by simp [putPos] at hk⊢;omega
 | a :: t,n,0,_,_,h2=>by
  have:=h2 (by simp)
  simp only [List.getElem_cons_zero] at this
  simp [putPos,this]
 | a :: t,n,k+1,hk,h1,h2=>by
  have h0:=h1 0 (by simp) (by omega)
  simp only [List.getElem_cons_zero] at h0
  have ih:=putPos_at (l:=t) (n:=n) (k:=k) (by simpa using hk) (fun j hj hjk=>by have:=h1 (j+1) (by simpa using hj) (by omega);simpa using this) (fun h=>by have:=h2 (by simpa using h);simpa using this)
  unfold putPos at ih⊢
  rw [List.takeWhile_cons,if_pos h0,List.length_cons,ih]
theorem fvBlocks_perm {a b:List FV} (h:a.Perm b):(fvBlocks a).Perm (fvBlocks b):=h.flatMap_right _
theorem putR_perm (l:List FV) (f:FV):(putR l f).Perm (f :: l):=by
 unfold putR
 refine List.perm_middle.trans ?_
 rw [List.take_append_drop]
theorem usedR_perm {a b:List FV} (h:a.Perm b):usedR a=usedR b:=by
 unfold usedR
 induction h with
 | nil=>rfl
 | cons x h ih=>simp [ih]
 | swap x y l=>simp;omega
 | trans h1 h2 i1 i2=>exact i1.trans i2
end Go.Proofs.YtgaidmohdhaonaaGreatDoor
