/-
  Package strataref2, walked: key, Key.
  Package strataref2, walked: Key.
-/
import Derived.Test.YtgaidmohdhaonaaGreatDoorYL
set_option linter.unusedVariables false
set_option linter.unusedSimpArgs false
set_option linter.unnecessarySimpa false
set_option linter.unusedSectionVars false
set_option maxRecDepth 100000
set_option maxHeartbeats 6400000
namespace Go.Proofs.YtgaidmohdhaonaaGreatDoor
open Go Go.RowKit
theorem ordB_len (b:List UInt8):(ordB b).length≤2*b.length+2:=by
 have:=ordT_len b
 unfold ordB
 rw [List.length_append]
 simp;omega
theorem entCells {W:World} {p:Nat} {x0 x1 x2 x3 x4 x5:Value} (h:W.heap[p]? = some (.cells #[x0,x1,x2,x3,x4,x5,.slice none 0 0] 215 (0,0))) :
  W.cell? ⟨p,0,none⟩=some x0∧W.cell? ⟨p,1,none⟩=some x1∧W.cell? ⟨p,2,none⟩=some x2∧W.cell? ⟨p,3,none⟩=some x3∧W.cell? ⟨p,4,none⟩=some x4∧W.cell? ⟨p,5,none⟩=some x5∧p<W.heap.size:=
 ⟨cell_of_row _ _ 0 _ _ _ h,cell_of_row _ _ 1 _ _ _ h,cell_of_row _ _ 2 _ _ _ h,cell_of_row _ _ 3 _ _ _ h,cell_of_row _ _ 4 _ _ _ h,cell_of_row _ _ 5 _ _ _ h,lt_of_heap h⟩
theorem NewB.lt {w w':World} {v:Value} {bs:List UInt8} (h:NewB w w' v bs):∀k,v.ownBlock=some k→k<w'.heap.size:=by
 intro k hk
 rcases h.data with ⟨rfl,-⟩|⟨g,cap,cur,rfl,hg,-⟩
 ·cases hk
 ·simp only [Value.ownBlock,Option.some.injEq] at hk;subst hk;exact lt_of_heap hg
theorem NewB.aside {w w1 w2:World} {v s:Value} {cs:List UInt8} (h:NewB w w1 s cs) (hu:Upd (fun k=>v.ownBlock=some k) w1 w2) (hd:∀k,s.ownBlock=some k→¬v.ownBlock=some k) (h2:Upd (fun _=>False) w w2):NewB w w2 s cs:=
 ⟨h.data.upd hu hd,h.new,h2⟩
theorem NewB.glue2 {w w1:World} {v s:Value} {bs news:List UInt8} (h:NewB w w1 v bs) (hs:BAt w1 s news) (hl:bs.length+news.length≤140737488355328) :
  ∃ao L cap w2,(Builtin.append_ #[22,22] 22 #[v,s]).run Tryz.prog w1=.ok (.slice ao L cap) w2∧NewB w w2 (.slice ao L cap) (bs++news)∧Upd (fun k=>v.ownBlock=some k) w1 w2:=by
 obtain ⟨v',w2,hr,hd,hu,hat⟩:=run_append_data h.data hs.bytes hl 22
 have hsz:=h.upd.size
 have hn:NewB w w2 v' (bs++news):=⟨hd,fun k hk=>(hat k hk).elim (h.new k) (fun e=>by omega),h.upd.trans hu (fun k hk e=>by have:=h.new k e;omega)⟩
 obtain ⟨ao,cap,rfl,-,-⟩:=hn.shape
 exact ⟨ao,_,cap,w2,hr,hn,hu⟩
theorem refKeyFam {w:World} {a1 a2:Option Addr} {c1 c2:Nat} {row qual:List UInt8} {f t s:Nat} (hb1:BAt w (.slice a1 row.length c1) row) (hb2:BAt w (.slice a2 qual.length c2) qual)
  (h1:row.length≤256) (h2:qual.length≤256) (h3:f≤7) (h4:t≤1099511627776) (h5:s≤17592186044431) :
  Calls Tryz.prog 206 #[.agg #[.slice a1 row.length c1,.int .i64 (f:Int),.slice a2 qual.length c2,.int .i64 (t:Int),.int .i64 (s:Int),.int .i64 5,.slice none 0 0]] w fun x w'=>∃v',x=.returned v'∧NewB w w' v' (ordB row ++ [UInt8.ofNat f] ++ [0]++eightB (9223372036854775807-t)++eightB (9223372036854775807-s) ++ [5]):=by
 have Ka:=hid (heap_alloc_new w (.cells #[.slice a1 row.length c1,.int .i64 (f:Int),.slice a2 qual.length c2,.int .i64 (t:Int),.int .i64 (s:Int),.int .i64 5,.slice none 0 0] 215))
 have Kh:=hid ((Upd.refl (fun _=>False) w).alloc (.cells #[.slice a1 row.length c1,.int .i64 (f:Int),.slice a2 qual.length c2,.int .i64 (t:Int),.int .i64 (s:Int),.int .i64 5,.slice none 0 0] 215))
 have HO:=hid (refOrdered_any (w:=w.alloc (.cells #[.slice a1 row.length c1,.int .i64 (f:Int),.slice a2 qual.length c2,.int .i64 (t:Int),.int .i64 (s:Int),.int .i64 5,.slice none 0 0] 215)) (hb1.keep Kh.out) (by omega))
 have Zd:=hid hb2
 have Kb:=hid (ordB_len row);have Kc:=hid (ordB_len qual)
 have HH:=hid (show row.length≤256∧qual.length≤256∧t≤1099511627776∧s≤17592186044431 from ⟨h1,h2,h4,h5⟩)
 obtain ⟨p,hp⟩:∃p,p=w.heap.size:=⟨_,rfl⟩
 rw [←hp] at Ka
 have HP:=hid hp
 clear hb1 hb2 hp h1 h2 h4 h5
 go_enter Tryz.func206,Tryz.ntmps206
 go_wp2_with fail
 refine HO.out.mono ?_
 rintro e w1 ⟨v1,rfl,hn1⟩
 rw [←HP.out]
 have Ki:=hid hn1
 obtain ⟨x1,y1,hv1,-,-⟩:=hn1.shape
 obtain ⟨m1,hm1⟩:∃m,m=(ordB row).length:=⟨_,rfl⟩
 rw [←hm1] at hv1
 subst hv1
 clear hn1 hm1
 have Kn:=hid (Ki.out.upd.get Ka.out (fun e=>e))
 obtain ⟨e0,e1,e2,e3,e4,e5,epl⟩:=entCells Kn.out
 have hbv:([UInt8.ofNat f].map byteV).toArray=#[.int .u8 (f:Int)]:=by first|rfl|(simp only [List.map_cons,List.map_nil,byteV,UInt8.toNat_ofNat'];congr 3;omega)
 obtain ⟨x2,m2,y2,w2,hr2,hn2⟩:=Ki.out.put [UInt8.ofNat f] #[.int .u8 (f:Int)] 1 hbv rfl (by have:=Kb.out;have:=Kc.out;have:=HH.out;simp [eightB_len] at *;omega)
 have Ko:=hid hr2;have Kj:=hid hn2
 clear hr2 hn2 hbv
 go_upto_region 3 with (at_builtin;refine wpList_append_run rfl _ _ _ rfl rfl rfl Ko.out ?_)
 clear e0 e1 e2 e3 e4 e5 epl
 have Kp:=hid (Kj.out.upd.get Ka.out (fun e=>e))
 obtain ⟨e0,e1,e2,e3,e4,e5,epl⟩:=entCells Kp.out
 have hbv:([0].map byteV).toArray=#[.int .u8 0]:=by first|rfl|(simp only [List.map_cons,List.map_nil,byteV,UInt8.toNat_ofNat'];congr 3;omega)
 obtain ⟨x3,m3,y3,w3,hr3,hn3⟩:=Kj.out.put [0] #[.int .u8 0] 1 hbv rfl (by have:=Kb.out;have:=Kc.out;have:=HH.out;simp [eightB_len] at *;omega)
 have Kq:=hid hr3;have Kd:=hid hn3
 clear hr3 hn3 hbv
 go_upto_region 11 with (at_builtin;refine wpList_append_run rfl _ _ _ rfl rfl rfl Kq.out ?_)
 clear e0 e1 e2 e3 e4 e5 epl
 have Kr:=hid (Kd.out.upd.get Ka.out (fun e=>e))
 obtain ⟨e0,e1,e2,e3,e4,e5,epl⟩:=entCells Kr.out
 have Ks:=hid (refFalling_any (w:=w3) (n:=t) (by have:=HH.out;omega))
 go_wp2_with fail
 refine Ks.out.mono ?_
 rintro e w4 ⟨v4,rfl,hn4⟩
 have Ze:=hid (show ∀b,v4.ownBlock=some b→¬(Value.slice x3 m3 y3).ownBlock=some b from fun b e1 e2=>absurd (Kd.out.lt b e2) (Nat.not_lt.2 (hn4.new b e1)))
 have Ke:=hid (Kd.out.keep hn4.upd)
 have Kf:=hid (hn4.rebase Kd.out.upd)
 obtain ⟨xs4,ys4,hv4,-,-⟩:=hn4.shape
 obtain ⟨ms4,hms4⟩:∃m,m=(eightB (9223372036854775807-t)).length:=⟨_,rfl⟩
 rw [←hms4] at hv4
 subst hv4
 clear hms4
 clear hn4
 clear e0 e1 e2 e3 e4 e5 epl
 have Kt:=hid (Ke.out.upd.get Ka.out (fun e=>e))
 obtain ⟨e0,e1,e2,e3,e4,e5,epl⟩:=entCells Kt.out
 have Ku:=hid (refFalling_any (w:=w4) (n:=s) (by have:=HH.out;omega))
 go_wp2_with fail
 refine Ku.out.mono ?_
 rintro e w5 ⟨v5,rfl,hn5⟩
 have Kv:=hid (show ∀b,v5.ownBlock=some b→¬(Value.slice x3 m3 y3).ownBlock=some b from fun b e1 e2=>absurd (Ke.out.lt b e2) (Nat.not_lt.2 (hn5.new b e1)))
 have Kk:=hid (Ke.out.keep hn5.upd)
 have Kg:=hid (hn5.rebase Ke.out.upd)
 obtain ⟨xs5,ys5,hv5,-,-⟩:=hn5.shape
 obtain ⟨ms5,hms5⟩:∃m,m=(eightB (9223372036854775807-s)).length:=⟨_,rfl⟩
 rw [←hms5] at hv5
 subst hv5
 clear hms5
 have Kf:=hid (Kf.out.keep hn5.upd)
 clear hn5
 clear e0 e1 e2 e3 e4 e5 epl
 have Kw:=hid (Kk.out.upd.get Ka.out (fun e=>e))
 obtain ⟨e0,e1,e2,e3,e4,e5,epl⟩:=entCells Kw.out
 obtain ⟨x6,m6,y6,w6,hr6,hn6,hu6⟩:=Kk.out.glue2 Kf.out.data.bat (by have:=Kb.out;have:=Kc.out;have:=HH.out;simp [eightB_len] at *;omega)
 have Kx:=hid hr6;have Kl:=hid hn6
 have Kg:=hid (Kg.out.aside hu6 Kv.out hn6.upd)
 clear hr6 hn6 hu6
 go_upto_region 14 with (at_builtin;refine wpList_append_run rfl _ _ _ rfl rfl rfl Kx.out ?_)
 clear e0 e1 e2 e3 e4 e5 epl
 have Ky:=hid (Kl.out.upd.get Ka.out (fun e=>e))
 obtain ⟨e0,e1,e2,e3,e4,e5,epl⟩:=entCells Ky.out
 obtain ⟨x7,m7,y7,w7,hr7,hn7,hu7⟩:=Kl.out.glue2 Kg.out.data.bat (by have:=Kb.out;have:=Kc.out;have:=HH.out;simp [eightB_len] at *;omega)
 have Kz:=hid hr7;have Km:=hid hn7
 clear hr7 hn7 hu7
 go_upto_region 15 with (at_builtin;refine wpList_append_run rfl _ _ _ rfl rfl rfl Kz.out ?_)
 clear e0 e1 e2 e3 e4 e5 epl
 have Za:=hid (Km.out.upd.get Ka.out (fun e=>e))
 obtain ⟨e0,e1,e2,e3,e4,e5,epl⟩:=entCells Za.out
 have hbv:([5].map byteV).toArray=#[.int .u8 5]:=by first|rfl|(simp only [List.map_cons,List.map_nil,byteV,UInt8.toNat_ofNat'];congr 3;omega)
 obtain ⟨x8,m8,y8,w8,hr8,hn8⟩:=Km.out.put [5] #[.int .u8 5] 1 hbv rfl (by have:=Kb.out;have:=Kc.out;have:=HH.out;simp [eightB_len] at *;omega)
 have Zb:=hid hr8;have Zc:=hid hn8
 clear hr8 hn8 hbv
 go_wp2_with (at_builtin;refine wpList_append_run rfl _ _ _ rfl rfl rfl Zb.out ?_)
 go_ret
 exact ⟨_,rfl,Zc.out.rebase Kh.out⟩
theorem refKeyCol {w:World} {a1 a2:Option Addr} {c1 c2:Nat} {row qual:List UInt8} {f t s:Nat} (hb1:BAt w (.slice a1 row.length c1) row) (hb2:BAt w (.slice a2 qual.length c2) qual)
  (h1:row.length≤256) (h2:qual.length≤256) (h3:f≤7) (h4:t≤1099511627776) (h5:s≤17592186044431) :
  Calls Tryz.prog 206 #[.agg #[.slice a1 row.length c1,.int .i64 (f:Int),.slice a2 qual.length c2,.int .i64 (t:Int),.int .i64 (s:Int),.int .i64 4,.slice none 0 0]] w fun x w'=>∃v',x=.returned v'∧NewB w w' v' (ordB row ++ [UInt8.ofNat f] ++ [1]++ordB qual ++ [0]++eightB (9223372036854775807-t)++eightB (9223372036854775807-s) ++ [4]):=by
 have Ka:=hid (heap_alloc_new w (.cells #[.slice a1 row.length c1,.int .i64 (f:Int),.slice a2 qual.length c2,.int .i64 (t:Int),.int .i64 (s:Int),.int .i64 4,.slice none 0 0] 215))
 have Kh:=hid ((Upd.refl (fun _=>False) w).alloc (.cells #[.slice a1 row.length c1,.int .i64 (f:Int),.slice a2 qual.length c2,.int .i64 (t:Int),.int .i64 (s:Int),.int .i64 4,.slice none 0 0] 215))
 have HO:=hid (refOrdered_any (w:=w.alloc (.cells #[.slice a1 row.length c1,.int .i64 (f:Int),.slice a2 qual.length c2,.int .i64 (t:Int),.int .i64 (s:Int),.int .i64 4,.slice none 0 0] 215)) (hb1.keep Kh.out) (by omega))
 have Ku:=hid hb2
 have Kb:=hid (ordB_len row);have Kc:=hid (ordB_len qual)
 have HH:=hid (show row.length≤256∧qual.length≤256∧t≤1099511627776∧s≤17592186044431 from ⟨h1,h2,h4,h5⟩)
 obtain ⟨p,hp⟩:∃p,p=w.heap.size:=⟨_,rfl⟩
 rw [←hp] at Ka
 have HP:=hid hp
 clear hb1 hb2 hp h1 h2 h4 h5
 go_enter Tryz.func206,Tryz.ntmps206
 go_wp2_with fail
 refine HO.out.mono ?_
 rintro e w1 ⟨v1,rfl,hn1⟩
 rw [←HP.out]
 have Kk:=hid hn1
 obtain ⟨x1,y1,hv1,-,-⟩:=hn1.shape
 obtain ⟨m1,hm1⟩:∃m,m=(ordB row).length:=⟨_,rfl⟩
 rw [←hm1] at hv1
 subst hv1
 clear hn1 hm1
 have Kv:=hid (Kk.out.upd.get Ka.out (fun e=>e))
 obtain ⟨e0,e1,e2,e3,e4,e5,epl⟩:=entCells Kv.out
 have hbv:([UInt8.ofNat f].map byteV).toArray=#[.int .u8 (f:Int)]:=by first|rfl|(simp only [List.map_cons,List.map_nil,byteV,UInt8.toNat_ofNat'];congr 3;omega)
 obtain ⟨x2,m2,y2,w2,hr2,hn2⟩:=Kk.out.put [UInt8.ofNat f] #[.int .u8 (f:Int)] 1 hbv rfl (by have:=Kb.out;have:=Kc.out;have:=HH.out;simp [eightB_len] at *;omega)
 have Kw:=hid hr2;have Kl:=hid hn2
 clear hr2 hn2 hbv
 go_upto_region 3 with (at_builtin;refine wpList_append_run rfl _ _ _ rfl rfl rfl Kw.out ?_)
 clear e0 e1 e2 e3 e4 e5 epl
 have Kx:=hid (Kl.out.upd.get Ka.out (fun e=>e))
 obtain ⟨e0,e1,e2,e3,e4,e5,epl⟩:=entCells Kx.out
 have hbv:([1].map byteV).toArray=#[.int .u8 1]:=by first|rfl|(simp only [List.map_cons,List.map_nil,byteV,UInt8.toNat_ofNat'];congr 3;omega)
 obtain ⟨x3,m3,y3,w3,hr3,hn3⟩:=Kl.out.put [1] #[.int .u8 1] 1 hbv rfl (by have:=Kb.out;have:=Kc.out;have:=HH.out;simp [eightB_len] at *;omega)
 have Ky:=hid hr3;have Kd:=hid hn3
 clear hr3 hn3 hbv
 go_upto_region 6 with (at_builtin;refine wpList_append_run rfl _ _ _ rfl rfl rfl Ky.out ?_)
 clear e0 e1 e2 e3 e4 e5 epl
 have Kz:=hid (Kd.out.upd.get Ka.out (fun e=>e))
 obtain ⟨e0,e1,e2,e3,e4,e5,epl⟩:=entCells Kz.out
 have Za:=hid (refOrdered_any (w:=w3) (Ku.out.keep (Kh.out.trans Kd.out.upd (fun _ _ e=>e))) (by have:=HH.out;omega))
 go_wp2_with fail
 refine Za.out.mono ?_
 rintro e w4 ⟨v4,rfl,hn4⟩
 have Zo:=hid (show ∀b,v4.ownBlock=some b→¬(Value.slice x3 m3 y3).ownBlock=some b from fun b e1 e2=>absurd (Kd.out.lt b e2) (Nat.not_lt.2 (hn4.new b e1)))
 have Km:=hid (Kd.out.keep hn4.upd)
 have Zb:=hid (hn4.rebase Kd.out.upd)
 obtain ⟨xs4,ys4,hv4,-,-⟩:=hn4.shape
 obtain ⟨ms4,hms4⟩:∃m,m=(ordB qual).length:=⟨_,rfl⟩
 rw [←hms4] at hv4
 subst hv4
 clear hms4
 clear hn4
 clear e0 e1 e2 e3 e4 e5 epl
 have Zc:=hid (Km.out.upd.get Ka.out (fun e=>e))
 obtain ⟨e0,e1,e2,e3,e4,e5,epl⟩:=entCells Zc.out
 obtain ⟨x5,m5,y5,w5,hr5,hn5,hu5⟩:=Km.out.glue2 Zb.out.data.bat (by have:=Kb.out;have:=Kc.out;have:=HH.out;simp [eightB_len] at *;omega)
 have Zd:=hid hr5;have Kn:=hid hn5
 clear hr5 hn5 hu5
 go_upto_region 8 with (at_builtin;refine wpList_append_run rfl _ _ _ rfl rfl rfl Zd.out ?_)
 clear e0 e1 e2 e3 e4 e5 epl
 have Ze:=hid (Kn.out.upd.get Ka.out (fun e=>e))
 obtain ⟨e0,e1,e2,e3,e4,e5,epl⟩:=entCells Ze.out
 have hbv:([0].map byteV).toArray=#[.int .u8 0]:=by first|rfl|(simp only [List.map_cons,List.map_nil,byteV,UInt8.toNat_ofNat'];congr 3;omega)
 obtain ⟨x6,m6,y6,w6,hr6,hn6⟩:=Kn.out.put [0] #[.int .u8 0] 1 hbv rfl (by have:=Kb.out;have:=Kc.out;have:=HH.out;simp [eightB_len] at *;omega)
 have Zf:=hid hr6;have Ke:=hid hn6
 clear hr6 hn6 hbv
 go_upto_region 11 with (at_builtin;refine wpList_append_run rfl _ _ _ rfl rfl rfl Zf.out ?_)
 clear e0 e1 e2 e3 e4 e5 epl
 have Zg:=hid (Ke.out.upd.get Ka.out (fun e=>e))
 obtain ⟨e0,e1,e2,e3,e4,e5,epl⟩:=entCells Zg.out
 have Zh:=hid (refFalling_any (w:=w6) (n:=t) (by have:=HH.out;omega))
 go_wp2_with fail
 refine Zh.out.mono ?_
 rintro e w7 ⟨v7,rfl,hn7⟩
 have Zp:=hid (show ∀b,v7.ownBlock=some b→¬(Value.slice x6 m6 y6).ownBlock=some b from fun b e1 e2=>absurd (Ke.out.lt b e2) (Nat.not_lt.2 (hn7.new b e1)))
 have Kf:=hid (Ke.out.keep hn7.upd)
 have Ki:=hid (hn7.rebase Ke.out.upd)
 obtain ⟨xs7,ys7,hv7,-,-⟩:=hn7.shape
 obtain ⟨ms7,hms7⟩:∃m,m=(eightB (9223372036854775807-t)).length:=⟨_,rfl⟩
 rw [←hms7] at hv7
 subst hv7
 clear hms7
 clear hn7
 clear e0 e1 e2 e3 e4 e5 epl
 have Zi:=hid (Kf.out.upd.get Ka.out (fun e=>e))
 obtain ⟨e0,e1,e2,e3,e4,e5,epl⟩:=entCells Zi.out
 have Zj:=hid (refFalling_any (w:=w7) (n:=s) (by have:=HH.out;omega))
 go_wp2_with fail
 refine Zj.out.mono ?_
 rintro e w8 ⟨v8,rfl,hn8⟩
 have Zk:=hid (show ∀b,v8.ownBlock=some b→¬(Value.slice x6 m6 y6).ownBlock=some b from fun b e1 e2=>absurd (Kf.out.lt b e2) (Nat.not_lt.2 (hn8.new b e1)))
 have Ko:=hid (Kf.out.keep hn8.upd)
 have Kj:=hid (hn8.rebase Kf.out.upd)
 obtain ⟨xs8,ys8,hv8,-,-⟩:=hn8.shape
 obtain ⟨ms8,hms8⟩:∃m,m=(eightB (9223372036854775807-s)).length:=⟨_,rfl⟩
 rw [←hms8] at hv8
 subst hv8
 clear hms8
 have Ki:=hid (Ki.out.keep hn8.upd)
 clear hn8
 clear e0 e1 e2 e3 e4 e5 epl
 have Zl:=hid (Ko.out.upd.get Ka.out (fun e=>e))
 obtain ⟨e0,e1,e2,e3,e4,e5,epl⟩:=entCells Zl.out
 obtain ⟨x9,m9,y9,w9,hr9,hn9,hu9⟩:=Ko.out.glue2 Ki.out.data.bat (by have:=Kb.out;have:=Kc.out;have:=HH.out;simp [eightB_len] at *;omega)
 have Zm:=hid hr9;have Kp:=hid hn9
 have Kj:=hid (Kj.out.aside hu9 Zk.out hn9.upd)
 clear hr9 hn9 hu9
 go_upto_region 14 with (at_builtin;refine wpList_append_run rfl _ _ _ rfl rfl rfl Zm.out ?_)
 clear e0 e1 e2 e3 e4 e5 epl
 have Zn:=hid (Kp.out.upd.get Ka.out (fun e=>e))
 obtain ⟨e0,e1,e2,e3,e4,e5,epl⟩:=entCells Zn.out
 obtain ⟨x10,m10,y10,w10,hr10,hn10,hu10⟩:=Kp.out.glue2 Kj.out.data.bat (by have:=Kb.out;have:=Kc.out;have:=HH.out;simp [eightB_len] at *;omega)
 have Kq:=hid hr10;have Kg:=hid hn10
 clear hr10 hn10 hu10
 go_upto_region 15 with (at_builtin;refine wpList_append_run rfl _ _ _ rfl rfl rfl Kq.out ?_)
 clear e0 e1 e2 e3 e4 e5 epl
 have Kr:=hid (Kg.out.upd.get Ka.out (fun e=>e))
 obtain ⟨e0,e1,e2,e3,e4,e5,epl⟩:=entCells Kr.out
 have hbv:([4].map byteV).toArray=#[.int .u8 4]:=by first|rfl|(simp only [List.map_cons,List.map_nil,byteV,UInt8.toNat_ofNat'];congr 3;omega)
 obtain ⟨x11,m11,y11,w11,hr11,hn11⟩:=Kg.out.put [4] #[.int .u8 4] 1 hbv rfl (by have:=Kb.out;have:=Kc.out;have:=HH.out;simp [eightB_len] at *;omega)
 have Ks:=hid hr11;have Kt:=hid hn11
 clear hr11 hn11 hbv
 go_wp2_with (at_builtin;refine wpList_append_run rfl _ _ _ rfl rfl rfl Ks.out ?_)
 go_ret
 exact ⟨_,rfl,Kt.out.rebase Kh.out⟩
theorem refKeyPut {w:World} {a1 a2:Option Addr} {c1 c2:Nat} {row qual:List UInt8} {f t s k:Nat} (hb1:BAt w (.slice a1 row.length c1) row) (hb2:BAt w (.slice a2 qual.length c2) qual)
  (h1:row.length≤256) (h2:qual.length≤256) (h3:f≤7) (h4:t≤1099511627776) (h5:s≤17592186044431) (h6:k≤5) (h8:k≠5) (h9:k≠4) :
  Calls Tryz.prog 206 #[.agg #[.slice a1 row.length c1,.int .i64 (f:Int),.slice a2 qual.length c2,.int .i64 (t:Int),.int .i64 (s:Int),.int .i64 (k:Int),.slice none 0 0]] w fun x w'=>∃v',x=.returned v'∧NewB w w' v' (ordB row ++ [UInt8.ofNat f] ++ [1]++ordB qual ++ [1]++eightB (9223372036854775807-t)++eightB (9223372036854775807-s) ++ [UInt8.ofNat k]):=by
 have Ka:=hid (heap_alloc_new w (.cells #[.slice a1 row.length c1,.int .i64 (f:Int),.slice a2 qual.length c2,.int .i64 (t:Int),.int .i64 (s:Int),.int .i64 (k:Int),.slice none 0 0] 215))
 have Kh:=hid ((Upd.refl (fun _=>False) w).alloc (.cells #[.slice a1 row.length c1,.int .i64 (f:Int),.slice a2 qual.length c2,.int .i64 (t:Int),.int .i64 (s:Int),.int .i64 (k:Int),.slice none 0 0] 215))
 have HO:=hid (refOrdered_any (w:=w.alloc (.cells #[.slice a1 row.length c1,.int .i64 (f:Int),.slice a2 qual.length c2,.int .i64 (t:Int),.int .i64 (s:Int),.int .i64 (k:Int),.slice none 0 0] 215)) (hb1.keep Kh.out) (by omega))
 have Ku:=hid hb2
 have Kb:=hid (ordB_len row);have Kc:=hid (ordB_len qual)
 have HH:=hid (show row.length≤256∧qual.length≤256∧t≤1099511627776∧s≤17592186044431 from ⟨h1,h2,h4,h5⟩)
 obtain ⟨p,hp⟩:∃p,p=w.heap.size:=⟨_,rfl⟩
 rw [←hp] at Ka
 have HP:=hid hp
 have hk5:((k:Int)==5)=false:=by simp;omega
 have hk4:((k:Int)==4)=false:=by simp;omega
 clear h8 h9
 clear hb1 hb2 hp h1 h2 h4 h5
 go_enter Tryz.func206,Tryz.ntmps206
 go_wp2_with fail
 refine HO.out.mono ?_
 rintro e w1 ⟨v1,rfl,hn1⟩
 rw [←HP.out]
 have Kk:=hid hn1
 obtain ⟨x1,y1,hv1,-,-⟩:=hn1.shape
 obtain ⟨m1,hm1⟩:∃m,m=(ordB row).length:=⟨_,rfl⟩
 rw [←hm1] at hv1
 subst hv1
 clear hn1 hm1
 have Kv:=hid (Kk.out.upd.get Ka.out (fun e=>e))
 obtain ⟨e0,e1,e2,e3,e4,e5,epl⟩:=entCells Kv.out
 have hbv:([UInt8.ofNat f].map byteV).toArray=#[.int .u8 (f:Int)]:=by first|rfl|(simp only [List.map_cons,List.map_nil,byteV,UInt8.toNat_ofNat'];congr 3;omega)
 obtain ⟨x2,m2,y2,w2,hr2,hn2⟩:=Kk.out.put [UInt8.ofNat f] #[.int .u8 (f:Int)] 1 hbv rfl (by have:=Kb.out;have:=Kc.out;have:=HH.out;simp [eightB_len] at *;omega)
 have Kw:=hid hr2;have Kl:=hid hn2
 clear hr2 hn2 hbv
 go_upto_region 3 with (at_builtin;refine wpList_append_run rfl _ _ _ rfl rfl rfl Kw.out ?_)
 clear e0 e1 e2 e3 e4 e5 epl
 have Kx:=hid (Kl.out.upd.get Ka.out (fun e=>e))
 obtain ⟨e0,e1,e2,e3,e4,e5,epl⟩:=entCells Kx.out
 have hbv:([1].map byteV).toArray=#[.int .u8 1]:=by first|rfl|(simp only [List.map_cons,List.map_nil,byteV,UInt8.toNat_ofNat'];congr 3;omega)
 obtain ⟨x3,m3,y3,w3,hr3,hn3⟩:=Kl.out.put [1] #[.int .u8 1] 1 hbv rfl (by have:=Kb.out;have:=Kc.out;have:=HH.out;simp [eightB_len] at *;omega)
 have Ky:=hid hr3;have Kd:=hid hn3
 clear hr3 hn3 hbv
 go_upto_region 6 with (at_builtin;refine wpList_append_run rfl _ _ _ rfl rfl rfl Ky.out ?_)
 clear e0 e1 e2 e3 e4 e5 epl
 have Kz:=hid (Kd.out.upd.get Ka.out (fun e=>e))
 obtain ⟨e0,e1,e2,e3,e4,e5,epl⟩:=entCells Kz.out
 have Za:=hid (refOrdered_any (w:=w3) (Ku.out.keep (Kh.out.trans Kd.out.upd (fun _ _ e=>e))) (by have:=HH.out;omega))
 go_wp2_with fail
 refine Za.out.mono ?_
 rintro e w4 ⟨v4,rfl,hn4⟩
 have Zo:=hid (show ∀b,v4.ownBlock=some b→¬(Value.slice x3 m3 y3).ownBlock=some b from fun b e1 e2=>absurd (Kd.out.lt b e2) (Nat.not_lt.2 (hn4.new b e1)))
 have Km:=hid (Kd.out.keep hn4.upd)
 have Zb:=hid (hn4.rebase Kd.out.upd)
 obtain ⟨xs4,ys4,hv4,-,-⟩:=hn4.shape
 obtain ⟨ms4,hms4⟩:∃m,m=(ordB qual).length:=⟨_,rfl⟩
 rw [←hms4] at hv4
 subst hv4
 clear hms4
 clear hn4
 clear e0 e1 e2 e3 e4 e5 epl
 have Zc:=hid (Km.out.upd.get Ka.out (fun e=>e))
 obtain ⟨e0,e1,e2,e3,e4,e5,epl⟩:=entCells Zc.out
 obtain ⟨x5,m5,y5,w5,hr5,hn5,hu5⟩:=Km.out.glue2 Zb.out.data.bat (by have:=Kb.out;have:=Kc.out;have:=HH.out;simp [eightB_len] at *;omega)
 have Zd:=hid hr5;have Kn:=hid hn5
 clear hr5 hn5 hu5
 go_upto_region 8 with (at_builtin;refine wpList_append_run rfl _ _ _ rfl rfl rfl Zd.out ?_)
 clear e0 e1 e2 e3 e4 e5 epl
 have Ze:=hid (Kn.out.upd.get Ka.out (fun e=>e))
 obtain ⟨e0,e1,e2,e3,e4,e5,epl⟩:=entCells Ze.out
 have hbv:([1].map byteV).toArray=#[.int .u8 1]:=by first|rfl|(simp only [List.map_cons,List.map_nil,byteV,UInt8.toNat_ofNat'];congr 3;omega)
 obtain ⟨x6,m6,y6,w6,hr6,hn6⟩:=Kn.out.put [1] #[.int .u8 1] 1 hbv rfl (by have:=Kb.out;have:=Kc.out;have:=HH.out;simp [eightB_len] at *;omega)
 have Zf:=hid hr6;have Ke:=hid hn6
 clear hr6 hn6 hbv
 go_upto_region 11 with (at_builtin;refine wpList_append_run rfl _ _ _ rfl rfl rfl Zf.out ?_)
 clear e0 e1 e2 e3 e4 e5 epl
 have Zg:=hid (Ke.out.upd.get Ka.out (fun e=>e))
 obtain ⟨e0,e1,e2,e3,e4,e5,epl⟩:=entCells Zg.out
 have Zh:=hid (refFalling_any (w:=w6) (n:=t) (by have:=HH.out;omega))
 go_wp2_with fail
 refine Zh.out.mono ?_
 rintro e w7 ⟨v7,rfl,hn7⟩
 have Zp:=hid (show ∀b,v7.ownBlock=some b→¬(Value.slice x6 m6 y6).ownBlock=some b from fun b e1 e2=>absurd (Ke.out.lt b e2) (Nat.not_lt.2 (hn7.new b e1)))
 have Kf:=hid (Ke.out.keep hn7.upd)
 have Ki:=hid (hn7.rebase Ke.out.upd)
 obtain ⟨xs7,ys7,hv7,-,-⟩:=hn7.shape
 obtain ⟨ms7,hms7⟩:∃m,m=(eightB (9223372036854775807-t)).length:=⟨_,rfl⟩
 rw [←hms7] at hv7
 subst hv7
 clear hms7
 clear hn7
 clear e0 e1 e2 e3 e4 e5 epl
 have Zi:=hid (Kf.out.upd.get Ka.out (fun e=>e))
 obtain ⟨e0,e1,e2,e3,e4,e5,epl⟩:=entCells Zi.out
 have Zj:=hid (refFalling_any (w:=w7) (n:=s) (by have:=HH.out;omega))
 go_wp2_with fail
 refine Zj.out.mono ?_
 rintro e w8 ⟨v8,rfl,hn8⟩
 have Zk:=hid (show ∀b,v8.ownBlock=some b→¬(Value.slice x6 m6 y6).ownBlock=some b from fun b e1 e2=>absurd (Kf.out.lt b e2) (Nat.not_lt.2 (hn8.new b e1)))
 have Ko:=hid (Kf.out.keep hn8.upd)
 have Kj:=hid (hn8.rebase Kf.out.upd)
 obtain ⟨xs8,ys8,hv8,-,-⟩:=hn8.shape
 obtain ⟨ms8,hms8⟩:∃m,m=(eightB (9223372036854775807-s)).length:=⟨_,rfl⟩
 rw [←hms8] at hv8
 subst hv8
 clear hms8
 have Ki:=hid (Ki.out.keep hn8.upd)
 clear hn8
 clear e0 e1 e2 e3 e4 e5 epl
 have Zl:=hid (Ko.out.upd.get Ka.out (fun e=>e))
 obtain ⟨e0,e1,e2,e3,e4,e5,epl⟩:=entCells Zl.out
 obtain ⟨x9,m9,y9,w9,hr9,hn9,hu9⟩:=Ko.out.glue2 Ki.out.data.bat (by have:=Kb.out;have:=Kc.out;have:=HH.out;simp [eightB_len] at *;omega)
 have Zm:=hid hr9;have Kp:=hid hn9
 have Kj:=hid (Kj.out.aside hu9 Zk.out hn9.upd)
 clear hr9 hn9 hu9
 go_upto_region 14 with (at_builtin;refine wpList_append_run rfl _ _ _ rfl rfl rfl Zm.out ?_)
 clear e0 e1 e2 e3 e4 e5 epl
 have Zn:=hid (Kp.out.upd.get Ka.out (fun e=>e))
 obtain ⟨e0,e1,e2,e3,e4,e5,epl⟩:=entCells Zn.out
 obtain ⟨x10,m10,y10,w10,hr10,hn10,hu10⟩:=Kp.out.glue2 Kj.out.data.bat (by have:=Kb.out;have:=Kc.out;have:=HH.out;simp [eightB_len] at *;omega)
 have Kq:=hid hr10;have Kg:=hid hn10
 clear hr10 hn10 hu10
 go_upto_region 15 with (at_builtin;refine wpList_append_run rfl _ _ _ rfl rfl rfl Kq.out ?_)
 clear e0 e1 e2 e3 e4 e5 epl
 have Kr:=hid (Kg.out.upd.get Ka.out (fun e=>e))
 obtain ⟨e0,e1,e2,e3,e4,e5,epl⟩:=entCells Kr.out
 have hbv:([UInt8.ofNat k].map byteV).toArray=#[.int .u8 (k:Int)]:=by first|rfl|(simp only [List.map_cons,List.map_nil,byteV,UInt8.toNat_ofNat'];congr 3;omega)
 obtain ⟨x11,m11,y11,w11,hr11,hn11⟩:=Kg.out.put [UInt8.ofNat k] #[.int .u8 (k:Int)] 1 hbv rfl (by have:=Kb.out;have:=Kc.out;have:=HH.out;simp [eightB_len] at *;omega)
 have Ks:=hid hr11;have Kt:=hid hn11
 clear hr11 hn11 hbv
 go_wp2_with (at_builtin;refine wpList_append_run rfl _ _ _ rfl rfl rfl Ks.out ?_)
 go_ret
 exact ⟨_,rfl,Kt.out.rebase Kh.out⟩
theorem refKeyIn_any {w:World} {v:Value} {e:EntA} (hv:EntAt w v e) (hb:e.bad=0) :
  Calls Tryz.prog 206 #[v] w fun x w'=>∃v',x=.returned v'∧NewB w w' v' e.key:=by
 obtain ⟨a1,c1,a2,c2,rfl,hb1,hb2⟩:=hv.eq
 obtain ⟨row,fam,qual,ts,seq,kind⟩:=e
 unfold EntA.bad at hb
 simp only at hb hb1 hb2⊢
 by_cases h1:row.length<1∨256<row.length
 ·rw [if_pos h1] at hb;omega
 rw [if_neg h1] at hb
 by_cases h2:fam<0∨7<fam
 ·rw [if_pos h2] at hb;omega
 rw [if_neg h2] at hb
 by_cases h3:256<qual.length∨(kind=5∧0<qual.length)
 ·rw [if_pos h3] at hb;omega
 rw [if_neg h3] at hb
 by_cases h4:ts<1∨1099511627776<ts
 ·rw [if_pos h4] at hb;omega
 rw [if_neg h4] at hb
 by_cases h5:seq<0∨17592186044431<seq
 ·rw [if_pos h5] at hb;omega
 rw [if_neg h5] at hb
 by_cases h6:kind<1∨5<kind
 ·rw [if_pos h6] at hb;omega
 clear hb
 obtain ⟨f,rfl⟩:∃f:Nat,fam=f:=⟨fam.toNat,by omega⟩
 obtain ⟨t,rfl⟩:∃t:Nat,ts=t:=⟨ts.toNat,by omega⟩
 obtain ⟨s,rfl⟩:∃s:Nat,seq=s:=⟨seq.toNat,by omega⟩
 obtain ⟨k,rfl⟩:∃k:Nat,kind=k:=⟨kind.toNat,by omega⟩
 unfold EntA.key
 simp only [Int.toNat_natCast]
 by_cases k5:k=5
 ·subst k5
  refine (refKeyFam (f:=f) (t:=t) (s:=s) hb1 hb2 (by omega) (by omega) (by omega) (by omega) (by omega)).mono ?_
  rintro x w' ⟨v',rfl,hn⟩
  refine ⟨v',rfl,?_⟩
  simpa using hn
 ·by_cases k4:k=4
  ·subst k4
   refine (refKeyCol (f:=f) (t:=t) (s:=s) hb1 hb2 (by omega) (by omega) (by omega) (by omega) (by omega)).mono ?_
   rintro x w' ⟨v',rfl,hn⟩
   refine ⟨v',rfl,?_⟩
   simpa using hn
  ·refine (refKeyPut (f:=f) (t:=t) (s:=s) (k:=k) hb1 hb2 (by omega) (by omega) (by omega) (by omega) (by omega) (by omega) k5 k4).mono ?_
   rintro x w' ⟨v',rfl,hn⟩
   refine ⟨v',rfl,?_⟩
   have k5':¬(k:Int)=5:=by omega
   have k4':¬(k:Int)=4:=by omega
   rw [if_neg k5',if_neg k5',if_neg k4']
   simpa using hn
theorem refKey2_bad {w:World} {v:Value} {e:EntA} (hv:EntIs v e) (hb:e.bad≠0) :
  Calls Tryz.prog 185 #[v] w fun x w'=>x=.returned (.tuple #[.slice none 0 0,.int .i64 e.bad])∧Upd (fun _=>False) w w':=by
 have HV:=hid hv
 obtain ⟨a1,c1,a2,c2,rfl⟩:=hv
 obtain ⟨R,hR⟩:∃R,R=e.bad:=⟨_,rfl⟩
 have hu:=(Upd.refl (fun _=>False) w).alloc (.cells #[.slice a1 e.row.length c1,.int .i64 e.fam,.slice a2 e.qual.length c2,.int .i64 e.ts,.int .i64 e.seq,.int .i64 e.kind,.slice none 0 0] 215)
 have HC:=hid (refCheck2_any (w:=w.alloc (.cells #[.slice a1 e.row.length c1,.int .i64 e.fam,.slice a2 e.qual.length c2,.int .i64 e.ts,.int .i64 e.seq,.int .i64 e.kind,.slice none 0 0] 215)) HV.out)
 rw [←hR] at HC hb⊢
 have hbi:(R != 0)=true:=by simp;exact hb
 have HU:=hid hu
 clear hu hR hb
 go_enter Tryz.func185,Tryz.ntmps185
 go_wp2_with fail
 refine HC.out.mono ?_
 rintro x w2 ⟨rfl,hu2⟩
 have Ka:=hid (HU.out.trans hu2 (fun _ _ e=>e))
 clear hu2
 go_wp2
 go_ret2
 exact ⟨rfl,Ka.out⟩
theorem refKey2_any {w:World} {v:Value} {e:EntA} (hv:EntAt w v e) (hb:e.bad=0) :
  Calls Tryz.prog 185 #[v] w fun x w'=>∃v',x=.returned (.tuple #[v',.int .i64 0])∧NewB w w' v' e.key:=by
 have HV:=hid hv
 obtain ⟨a1,c1,a2,c2,rfl,hb1,hb2⟩:=hv.eq
 have Kc:=hid hb1;have Kd:=hid hb2
 have HU:=hid ((Upd.refl (fun _=>False) w).alloc (.cells #[.slice a1 e.row.length c1,.int .i64 e.fam,.slice a2 e.qual.length c2,.int .i64 e.ts,.int .i64 e.seq,.int .i64 e.kind,.slice none 0 0] 215))
 have Kb:=hid (heap_alloc_new w (.cells #[.slice a1 e.row.length c1,.int .i64 e.fam,.slice a2 e.qual.length c2,.int .i64 e.ts,.int .i64 e.seq,.int .i64 e.kind,.slice none 0 0] 215))
 have HC:=hid (refCheck2_any (w:=w.alloc (.cells #[.slice a1 e.row.length c1,.int .i64 e.fam,.slice a2 e.qual.length c2,.int .i64 e.ts,.int .i64 e.seq,.int .i64 e.kind,.slice none 0 0] 215)) HV.out.is)
 rw [hb] at HC
 have HB:=hid hb
 obtain ⟨p,hp⟩:∃p,p=w.heap.size:=⟨_,rfl⟩
 rw [←hp] at Kb
 have HP:=hid hp
 clear hb1 hb2 hv hb hp
 go_enter Tryz.func185,Tryz.ntmps185
 go_wp2_with fail
 refine HC.out.mono ?_
 rintro x w2 ⟨rfl,hu2⟩
 rw [←HP.out]
 have Ka:=hid (HU.out.trans hu2 (fun _ _ e=>e))
 have hr2:=hu2.get Kb.out (fun e=>e)
 obtain ⟨e0,e1,e2,e3,e4,e5,epl⟩:=entCells hr2
 have e6:=cell_of_row _ _ 6 _ _ _ hr2
 have HK:=hid (refKeyIn_any (w:=w2) (⟨⟨a1,c1,a2,c2,rfl,Kc.out.keep Ka.out,Kd.out.keep Ka.out⟩⟩:EntAt w2 _ e) HB.out)
 clear hu2 hr2
 go_wp2_with fail
 refine HK.out.mono ?_
 rintro x w3 ⟨v',rfl,hn⟩
 have HN:=hid (hn.rebase Ka.out)
 clear hn
 go_wp2
 go_ret2
 exact ⟨_,rfl,HN.out⟩
end Go.Proofs.YtgaidmohdhaonaaGreatDoor
