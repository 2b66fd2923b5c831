/-
  Package strataref2, walked: key, Key.
  Package strataref2, walked: Key.
-/
import Derived.Test.YtgaidmohdhaonaaGreatDoorYM
namespace Go.Proofs.YtgaidmohdhaonaaGreatDoor
set_option linter.unusedVariables false
set_option linter.unusedSimpArgs false
set_option linter.unnecessarySimpa false
set_option linter.unusedSectionVars false
open Go Go.RowKit

theorem ordB_len (b : List UInt8) : (ordB b).length ≤ 2 * b.length + 2 := by
  have := ordT_len b
  unfold ordB
  rw [List.length_append]
  simp; omega

/-- The six things of an entry's box. -/
theorem entCells {W : World} {p : Nat} {x0 x1 x2 x3 x4 x5 : Value} (h : W.heap[p]? = some (.cells #[x0, x1, x2, x3, x4, x5, .slice none 0 0] 215 (0, 0))) :
    W.cell? ⟨p, 0, none⟩ = some x0 ∧ W.cell? ⟨p, 1, none⟩ = some x1 ∧ W.cell? ⟨p, 2, none⟩ = some x2 ∧ W.cell? ⟨p, 3, none⟩ = some x3 ∧ W.cell? ⟨p, 4, none⟩ = some x4 ∧ W.cell? ⟨p, 5, none⟩ = some x5 ∧ p < W.heap.size :=
  ⟨cell_of_row _ _ 0 _ _ _ h, cell_of_row _ _ 1 _ _ _ h, cell_of_row _ _ 2 _ _ _ h, cell_of_row _ _ 3 _ _ _ h, cell_of_row _ _ 4 _ _ _ h, cell_of_row _ _ 5 _ _ _ h, lt_of_heap h⟩

theorem NewB.lt {w w' : World} {v : Value} {bs : List UInt8} (h : NewB w w' v bs) : ∀ k, v.ownBlock = some k → k < w'.heap.size := by
  intro k hk
  rcases h.data with ⟨rfl, -⟩ | ⟨g, cap, cur, rfl, hg, -⟩
  · cases hk
  · simp only [Value.ownBlock, Option.some.injEq] at hk; subst hk; exact lt_of_heap hg

theorem NewB.aside {w w1 w2 : World} {v s : Value} {cs : List UInt8} (h : NewB w w1 s cs) (hu : Upd (fun k => v.ownBlock = some k) w1 w2) (hd : ∀ k, s.ownBlock = some k → ¬ v.ownBlock = some k) (h2 : Upd (fun _ => False) w w2) : NewB w w2 s cs :=
  ⟨h.data.upd hu hd, h.new, h2⟩

/-- Other bytes are appended; what else has turned. -/
theorem NewB.glue2 {w w1 : World} {v s : Value} {bs news : List UInt8} (h : NewB w w1 v bs) (hs : BAt w1 s news) (hl : bs.length + news.length ≤ 140737488355328) :
    ∃ ao L cap w2, (Builtin.append_ #[22, 22] 22 #[v, s]).run Tryz.prog w1 = .ok (.slice ao L cap) w2 ∧ NewB w w2 (.slice ao L cap) (bs ++ news) ∧ Upd (fun k => v.ownBlock = some k) w1 w2 := by
  obtain ⟨v', w2, hr, hd, hu, hat⟩ := run_append_data h.data hs.bytes hl 22
  have hsz := h.upd.size
  have hn : NewB w w2 v' (bs ++ news) := ⟨hd, fun k hk => (hat k hk).elim (h.new k) (fun e => by omega), h.upd.trans hu (fun k hk e => by have := h.new k e; omega)⟩
  obtain ⟨ao, cap, rfl, -, -⟩ := hn.shape
  exact ⟨ao, _, cap, w2, hr, hn, hu⟩

set_option maxRecDepth 100000 in
set_option maxHeartbeats 6400000 in
theorem refKeyFam {w : World} {a1 a2 : Option Addr} {c1 c2 : Nat} {row qual : List UInt8} {f t s : Nat} (hb1 : BAt w (.slice a1 row.length c1) row) (hb2 : BAt w (.slice a2 qual.length c2) qual)
    (h1 : row.length ≤ 256) (h2 : qual.length ≤ 256) (h3 : f ≤ 7) (h4 : t ≤ 1099511627776) (h5 : s ≤ 17592186044431) :
    Calls Tryz.prog 206 #[.agg #[.slice a1 row.length c1, .int .i64 (f : Int), .slice a2 qual.length c2, .int .i64 (t : Int), .int .i64 (s : Int), .int .i64 5, .slice none 0 0]] w fun x w' => ∃ v', x = .returned v' ∧ NewB w w' v' (ordB row ++ [UInt8.ofNat f] ++ [0] ++ eightB (9223372036854775807 - t) ++ eightB (9223372036854775807 - s) ++ [5]) := by
  have HR0 := hid (heap_alloc_new w (.cells #[.slice a1 row.length c1, .int .i64 (f : Int), .slice a2 qual.length c2, .int .i64 (t : Int), .int .i64 (s : Int), .int .i64 5, .slice none 0 0] 215))
  have HU0 := hid ((Upd.refl (fun _ => False) w).alloc (.cells #[.slice a1 row.length c1, .int .i64 (f : Int), .slice a2 qual.length c2, .int .i64 (t : Int), .int .i64 (s : Int), .int .i64 5, .slice none 0 0] 215))
  have HO := hid (refOrdered_any (w := w.alloc (.cells #[.slice a1 row.length c1, .int .i64 (f : Int), .slice a2 qual.length c2, .int .i64 (t : Int), .int .i64 (s : Int), .int .i64 5, .slice none 0 0] 215)) (hb1.keep HU0.out) (by omega))
  have HB2 := hid hb2
  have HL1 := hid (ordB_len row); have HL2 := hid (ordB_len qual)
  have HH := hid (show row.length ≤ 256 ∧ qual.length ≤ 256 ∧ t ≤ 1099511627776 ∧ s ≤ 17592186044431 from ⟨h1, h2, h4, h5⟩)
  obtain ⟨p, hp⟩ : ∃ p, p = w.heap.size := ⟨_, rfl⟩
  rw [← hp] at HR0
  have HP := hid hp
  clear hb1 hb2 hp h1 h2 h4 h5
  go_enter Tryz.func206, Tryz.ntmps206
  go_wp2_with fail
  refine HO.out.mono ?_
  rintro e w1 ⟨v1, rfl, hn1⟩
  rw [← HP.out]
  have HN1 := hid hn1
  obtain ⟨x1, y1, hv1, -, -⟩ := hn1.shape
  obtain ⟨m1, hm1⟩ : ∃ m, m = (ordB row).length := ⟨_, rfl⟩
  rw [← hm1] at hv1
  subst hv1
  clear hn1 hm1
  have HR1 := hid (HN1.out.upd.get HR0.out (fun e => e))
  obtain ⟨e0, e1, e2, e3, e4, e5, epl⟩ := entCells HR1.out
  have hbv : ([UInt8.ofNat f].map byteV).toArray = #[.int .u8 (f : Int)] := by first | rfl | (simp only [List.map_cons, List.map_nil, byteV, UInt8.toNat_ofNat']; congr 3; omega)
  obtain ⟨x2, m2, y2, w2, hr2, hn2⟩ := HN1.out.put [UInt8.ofNat f] #[.int .u8 (f : Int)] 1 hbv rfl (by have := HL1.out; have := HL2.out; have := HH.out; simp [eightB_len] at *; omega)
  have HG2 := hid hr2; have HN2 := hid hn2
  clear hr2 hn2 hbv
  go_upto_region 3 with (at_builtin; refine wpList_append_run rfl _ _ _ rfl rfl rfl HG2.out ?_)
  clear e0 e1 e2 e3 e4 e5 epl
  have HR2 := hid (HN2.out.upd.get HR0.out (fun e => e))
  obtain ⟨e0, e1, e2, e3, e4, e5, epl⟩ := entCells HR2.out
  have hbv : ([0].map byteV).toArray = #[.int .u8 0] := by first | rfl | (simp only [List.map_cons, List.map_nil, byteV, UInt8.toNat_ofNat']; congr 3; omega)
  obtain ⟨x3, m3, y3, w3, hr3, hn3⟩ := HN2.out.put [0] #[.int .u8 0] 1 hbv rfl (by have := HL1.out; have := HL2.out; have := HH.out; simp [eightB_len] at *; omega)
  have HG3 := hid hr3; have HN3 := hid hn3
  clear hr3 hn3 hbv
  go_upto_region 11 with (at_builtin; refine wpList_append_run rfl _ _ _ rfl rfl rfl HG3.out ?_)
  clear e0 e1 e2 e3 e4 e5 epl
  have HR3 := hid (HN3.out.upd.get HR0.out (fun e => e))
  obtain ⟨e0, e1, e2, e3, e4, e5, epl⟩ := entCells HR3.out
  have HC4 := hid (refFalling_any (w := w3) (n := t) (by have := HH.out; omega))
  go_wp2_with fail
  refine HC4.out.mono ?_
  rintro e w4 ⟨v4, rfl, hn4⟩
  have HDt := hid (show ∀ b, v4.ownBlock = some b → ¬ (Value.slice x3 m3 y3).ownBlock = some b from fun b e1 e2 => absurd (HN3.out.lt b e2) (Nat.not_lt.2 (hn4.new b e1)))
  have HN4 := hid (HN3.out.keep hn4.upd)
  have HSt := hid (hn4.rebase HN3.out.upd)
  obtain ⟨xs4, ys4, hv4, -, -⟩ := hn4.shape
  obtain ⟨ms4, hms4⟩ : ∃ m, m = (eightB (9223372036854775807 - t)).length := ⟨_, rfl⟩
  rw [← hms4] at hv4
  subst hv4
  clear hms4
  clear hn4
  clear e0 e1 e2 e3 e4 e5 epl
  have HR4 := hid (HN4.out.upd.get HR0.out (fun e => e))
  obtain ⟨e0, e1, e2, e3, e4, e5, epl⟩ := entCells HR4.out
  have HC5 := hid (refFalling_any (w := w4) (n := s) (by have := HH.out; omega))
  go_wp2_with fail
  refine HC5.out.mono ?_
  rintro e w5 ⟨v5, rfl, hn5⟩
  have HDs := hid (show ∀ b, v5.ownBlock = some b → ¬ (Value.slice x3 m3 y3).ownBlock = some b from fun b e1 e2 => absurd (HN4.out.lt b e2) (Nat.not_lt.2 (hn5.new b e1)))
  have HN5 := hid (HN4.out.keep hn5.upd)
  have HSs := hid (hn5.rebase HN4.out.upd)
  obtain ⟨xs5, ys5, hv5, -, -⟩ := hn5.shape
  obtain ⟨ms5, hms5⟩ : ∃ m, m = (eightB (9223372036854775807 - s)).length := ⟨_, rfl⟩
  rw [← hms5] at hv5
  subst hv5
  clear hms5
  have HSt := hid (HSt.out.keep hn5.upd)
  clear hn5
  clear e0 e1 e2 e3 e4 e5 epl
  have HR5 := hid (HN5.out.upd.get HR0.out (fun e => e))
  obtain ⟨e0, e1, e2, e3, e4, e5, epl⟩ := entCells HR5.out
  obtain ⟨x6, m6, y6, w6, hr6, hn6, hu6⟩ := HN5.out.glue2 HSt.out.data.bat (by have := HL1.out; have := HL2.out; have := HH.out; simp [eightB_len] at *; omega)
  have HG6 := hid hr6; have HN6 := hid hn6
  have HSs := hid (HSs.out.aside hu6 HDs.out hn6.upd)
  clear hr6 hn6 hu6
  go_upto_region 14 with (at_builtin; refine wpList_append_run rfl _ _ _ rfl rfl rfl HG6.out ?_)
  clear e0 e1 e2 e3 e4 e5 epl
  have HR6 := hid (HN6.out.upd.get HR0.out (fun e => e))
  obtain ⟨e0, e1, e2, e3, e4, e5, epl⟩ := entCells HR6.out
  obtain ⟨x7, m7, y7, w7, hr7, hn7, hu7⟩ := HN6.out.glue2 HSs.out.data.bat (by have := HL1.out; have := HL2.out; have := HH.out; simp [eightB_len] at *; omega)
  have HG7 := hid hr7; have HN7 := hid hn7
  clear hr7 hn7 hu7
  go_upto_region 15 with (at_builtin; refine wpList_append_run rfl _ _ _ rfl rfl rfl HG7.out ?_)
  clear e0 e1 e2 e3 e4 e5 epl
  have HR7 := hid (HN7.out.upd.get HR0.out (fun e => e))
  obtain ⟨e0, e1, e2, e3, e4, e5, epl⟩ := entCells HR7.out
  have hbv : ([5].map byteV).toArray = #[.int .u8 5] := by first | rfl | (simp only [List.map_cons, List.map_nil, byteV, UInt8.toNat_ofNat']; congr 3; omega)
  obtain ⟨x8, m8, y8, w8, hr8, hn8⟩ := HN7.out.put [5] #[.int .u8 5] 1 hbv rfl (by have := HL1.out; have := HL2.out; have := HH.out; simp [eightB_len] at *; omega)
  have HG8 := hid hr8; have HN8 := hid hn8
  clear hr8 hn8 hbv
  go_wp2_with (at_builtin; refine wpList_append_run rfl _ _ _ rfl rfl rfl HG8.out ?_)
  go_ret
  exact ⟨_, rfl, HN8.out.rebase HU0.out⟩

set_option maxRecDepth 100000 in
set_option maxHeartbeats 6400000 in
theorem refKeyCol {w : World} {a1 a2 : Option Addr} {c1 c2 : Nat} {row qual : List UInt8} {f t s : Nat} (hb1 : BAt w (.slice a1 row.length c1) row) (hb2 : BAt w (.slice a2 qual.length c2) qual)
    (h1 : row.length ≤ 256) (h2 : qual.length ≤ 256) (h3 : f ≤ 7) (h4 : t ≤ 1099511627776) (h5 : s ≤ 17592186044431) :
    Calls Tryz.prog 206 #[.agg #[.slice a1 row.length c1, .int .i64 (f : Int), .slice a2 qual.length c2, .int .i64 (t : Int), .int .i64 (s : Int), .int .i64 4, .slice none 0 0]] w fun x w' => ∃ v', x = .returned v' ∧ NewB w w' v' (ordB row ++ [UInt8.ofNat f] ++ [1] ++ ordB qual ++ [0] ++ eightB (9223372036854775807 - t) ++ eightB (9223372036854775807 - s) ++ [4]) := by
  have HR0 := hid (heap_alloc_new w (.cells #[.slice a1 row.length c1, .int .i64 (f : Int), .slice a2 qual.length c2, .int .i64 (t : Int), .int .i64 (s : Int), .int .i64 4, .slice none 0 0] 215))
  have HU0 := hid ((Upd.refl (fun _ => False) w).alloc (.cells #[.slice a1 row.length c1, .int .i64 (f : Int), .slice a2 qual.length c2, .int .i64 (t : Int), .int .i64 (s : Int), .int .i64 4, .slice none 0 0] 215))
  have HO := hid (refOrdered_any (w := w.alloc (.cells #[.slice a1 row.length c1, .int .i64 (f : Int), .slice a2 qual.length c2, .int .i64 (t : Int), .int .i64 (s : Int), .int .i64 4, .slice none 0 0] 215)) (hb1.keep HU0.out) (by omega))
  have HB2 := hid hb2
  have HL1 := hid (ordB_len row); have HL2 := hid (ordB_len qual)
  have HH := hid (show row.length ≤ 256 ∧ qual.length ≤ 256 ∧ t ≤ 1099511627776 ∧ s ≤ 17592186044431 from ⟨h1, h2, h4, h5⟩)
  obtain ⟨p, hp⟩ : ∃ p, p = w.heap.size := ⟨_, rfl⟩
  rw [← hp] at HR0
  have HP := hid hp
  clear hb1 hb2 hp h1 h2 h4 h5
  go_enter Tryz.func206, Tryz.ntmps206
  go_wp2_with fail
  refine HO.out.mono ?_
  rintro e w1 ⟨v1, rfl, hn1⟩
  rw [← HP.out]
  have HN1 := hid hn1
  obtain ⟨x1, y1, hv1, -, -⟩ := hn1.shape
  obtain ⟨m1, hm1⟩ : ∃ m, m = (ordB row).length := ⟨_, rfl⟩
  rw [← hm1] at hv1
  subst hv1
  clear hn1 hm1
  have HR1 := hid (HN1.out.upd.get HR0.out (fun e => e))
  obtain ⟨e0, e1, e2, e3, e4, e5, epl⟩ := entCells HR1.out
  have hbv : ([UInt8.ofNat f].map byteV).toArray = #[.int .u8 (f : Int)] := by first | rfl | (simp only [List.map_cons, List.map_nil, byteV, UInt8.toNat_ofNat']; congr 3; omega)
  obtain ⟨x2, m2, y2, w2, hr2, hn2⟩ := HN1.out.put [UInt8.ofNat f] #[.int .u8 (f : Int)] 1 hbv rfl (by have := HL1.out; have := HL2.out; have := HH.out; simp [eightB_len] at *; omega)
  have HG2 := hid hr2; have HN2 := hid hn2
  clear hr2 hn2 hbv
  go_upto_region 3 with (at_builtin; refine wpList_append_run rfl _ _ _ rfl rfl rfl HG2.out ?_)
  clear e0 e1 e2 e3 e4 e5 epl
  have HR2 := hid (HN2.out.upd.get HR0.out (fun e => e))
  obtain ⟨e0, e1, e2, e3, e4, e5, epl⟩ := entCells HR2.out
  have hbv : ([1].map byteV).toArray = #[.int .u8 1] := by first | rfl | (simp only [List.map_cons, List.map_nil, byteV, UInt8.toNat_ofNat']; congr 3; omega)
  obtain ⟨x3, m3, y3, w3, hr3, hn3⟩ := HN2.out.put [1] #[.int .u8 1] 1 hbv rfl (by have := HL1.out; have := HL2.out; have := HH.out; simp [eightB_len] at *; omega)
  have HG3 := hid hr3; have HN3 := hid hn3
  clear hr3 hn3 hbv
  go_upto_region 6 with (at_builtin; refine wpList_append_run rfl _ _ _ rfl rfl rfl HG3.out ?_)
  clear e0 e1 e2 e3 e4 e5 epl
  have HR3 := hid (HN3.out.upd.get HR0.out (fun e => e))
  obtain ⟨e0, e1, e2, e3, e4, e5, epl⟩ := entCells HR3.out
  have HC4 := hid (refOrdered_any (w := w3) (HB2.out.keep (HU0.out.trans HN3.out.upd (fun _ _ e => e))) (by have := HH.out; omega))
  go_wp2_with fail
  refine HC4.out.mono ?_
  rintro e w4 ⟨v4, rfl, hn4⟩
  have HDq := hid (show ∀ b, v4.ownBlock = some b → ¬ (Value.slice x3 m3 y3).ownBlock = some b from fun b e1 e2 => absurd (HN3.out.lt b e2) (Nat.not_lt.2 (hn4.new b e1)))
  have HN4 := hid (HN3.out.keep hn4.upd)
  have HSq := hid (hn4.rebase HN3.out.upd)
  obtain ⟨xs4, ys4, hv4, -, -⟩ := hn4.shape
  obtain ⟨ms4, hms4⟩ : ∃ m, m = (ordB qual).length := ⟨_, rfl⟩
  rw [← hms4] at hv4
  subst hv4
  clear hms4
  clear hn4
  clear e0 e1 e2 e3 e4 e5 epl
  have HR4 := hid (HN4.out.upd.get HR0.out (fun e => e))
  obtain ⟨e0, e1, e2, e3, e4, e5, epl⟩ := entCells HR4.out
  obtain ⟨x5, m5, y5, w5, hr5, hn5, hu5⟩ := HN4.out.glue2 HSq.out.data.bat (by have := HL1.out; have := HL2.out; have := HH.out; simp [eightB_len] at *; omega)
  have HG5 := hid hr5; have HN5 := hid hn5
  clear hr5 hn5 hu5
  go_upto_region 8 with (at_builtin; refine wpList_append_run rfl _ _ _ rfl rfl rfl HG5.out ?_)
  clear e0 e1 e2 e3 e4 e5 epl
  have HR5 := hid (HN5.out.upd.get HR0.out (fun e => e))
  obtain ⟨e0, e1, e2, e3, e4, e5, epl⟩ := entCells HR5.out
  have hbv : ([0].map byteV).toArray = #[.int .u8 0] := by first | rfl | (simp only [List.map_cons, List.map_nil, byteV, UInt8.toNat_ofNat']; congr 3; omega)
  obtain ⟨x6, m6, y6, w6, hr6, hn6⟩ := HN5.out.put [0] #[.int .u8 0] 1 hbv rfl (by have := HL1.out; have := HL2.out; have := HH.out; simp [eightB_len] at *; omega)
  have HG6 := hid hr6; have HN6 := hid hn6
  clear hr6 hn6 hbv
  go_upto_region 11 with (at_builtin; refine wpList_append_run rfl _ _ _ rfl rfl rfl HG6.out ?_)
  clear e0 e1 e2 e3 e4 e5 epl
  have HR6 := hid (HN6.out.upd.get HR0.out (fun e => e))
  obtain ⟨e0, e1, e2, e3, e4, e5, epl⟩ := entCells HR6.out
  have HC7 := hid (refFalling_any (w := w6) (n := t) (by have := HH.out; omega))
  go_wp2_with fail
  refine HC7.out.mono ?_
  rintro e w7 ⟨v7, rfl, hn7⟩
  have HDt := hid (show ∀ b, v7.ownBlock = some b → ¬ (Value.slice x6 m6 y6).ownBlock = some b from fun b e1 e2 => absurd (HN6.out.lt b e2) (Nat.not_lt.2 (hn7.new b e1)))
  have HN7 := hid (HN6.out.keep hn7.upd)
  have HSt := hid (hn7.rebase HN6.out.upd)
  obtain ⟨xs7, ys7, hv7, -, -⟩ := hn7.shape
  obtain ⟨ms7, hms7⟩ : ∃ m, m = (eightB (9223372036854775807 - t)).length := ⟨_, rfl⟩
  rw [← hms7] at hv7
  subst hv7
  clear hms7
  clear hn7
  clear e0 e1 e2 e3 e4 e5 epl
  have HR7 := hid (HN7.out.upd.get HR0.out (fun e => e))
  obtain ⟨e0, e1, e2, e3, e4, e5, epl⟩ := entCells HR7.out
  have HC8 := hid (refFalling_any (w := w7) (n := s) (by have := HH.out; omega))
  go_wp2_with fail
  refine HC8.out.mono ?_
  rintro e w8 ⟨v8, rfl, hn8⟩
  have HDs := hid (show ∀ b, v8.ownBlock = some b → ¬ (Value.slice x6 m6 y6).ownBlock = some b from fun b e1 e2 => absurd (HN7.out.lt b e2) (Nat.not_lt.2 (hn8.new b e1)))
  have HN8 := hid (HN7.out.keep hn8.upd)
  have HSs := hid (hn8.rebase HN7.out.upd)
  obtain ⟨xs8, ys8, hv8, -, -⟩ := hn8.shape
  obtain ⟨ms8, hms8⟩ : ∃ m, m = (eightB (9223372036854775807 - s)).length := ⟨_, rfl⟩
  rw [← hms8] at hv8
  subst hv8
  clear hms8
  have HSt := hid (HSt.out.keep hn8.upd)
  clear hn8
  clear e0 e1 e2 e3 e4 e5 epl
  have HR8 := hid (HN8.out.upd.get HR0.out (fun e => e))
  obtain ⟨e0, e1, e2, e3, e4, e5, epl⟩ := entCells HR8.out
  obtain ⟨x9, m9, y9, w9, hr9, hn9, hu9⟩ := HN8.out.glue2 HSt.out.data.bat (by have := HL1.out; have := HL2.out; have := HH.out; simp [eightB_len] at *; omega)
  have HG9 := hid hr9; have HN9 := hid hn9
  have HSs := hid (HSs.out.aside hu9 HDs.out hn9.upd)
  clear hr9 hn9 hu9
  go_upto_region 14 with (at_builtin; refine wpList_append_run rfl _ _ _ rfl rfl rfl HG9.out ?_)
  clear e0 e1 e2 e3 e4 e5 epl
  have HR9 := hid (HN9.out.upd.get HR0.out (fun e => e))
  obtain ⟨e0, e1, e2, e3, e4, e5, epl⟩ := entCells HR9.out
  obtain ⟨x10, m10, y10, w10, hr10, hn10, hu10⟩ := HN9.out.glue2 HSs.out.data.bat (by have := HL1.out; have := HL2.out; have := HH.out; simp [eightB_len] at *; omega)
  have HG10 := hid hr10; have HN10 := hid hn10
  clear hr10 hn10 hu10
  go_upto_region 15 with (at_builtin; refine wpList_append_run rfl _ _ _ rfl rfl rfl HG10.out ?_)
  clear e0 e1 e2 e3 e4 e5 epl
  have HR10 := hid (HN10.out.upd.get HR0.out (fun e => e))
  obtain ⟨e0, e1, e2, e3, e4, e5, epl⟩ := entCells HR10.out
  have hbv : ([4].map byteV).toArray = #[.int .u8 4] := by first | rfl | (simp only [List.map_cons, List.map_nil, byteV, UInt8.toNat_ofNat']; congr 3; omega)
  obtain ⟨x11, m11, y11, w11, hr11, hn11⟩ := HN10.out.put [4] #[.int .u8 4] 1 hbv rfl (by have := HL1.out; have := HL2.out; have := HH.out; simp [eightB_len] at *; omega)
  have HG11 := hid hr11; have HN11 := hid hn11
  clear hr11 hn11 hbv
  go_wp2_with (at_builtin; refine wpList_append_run rfl _ _ _ rfl rfl rfl HG11.out ?_)
  go_ret
  exact ⟨_, rfl, HN11.out.rebase HU0.out⟩

set_option maxRecDepth 100000 in
set_option maxHeartbeats 6400000 in
theorem refKeyPut {w : World} {a1 a2 : Option Addr} {c1 c2 : Nat} {row qual : List UInt8} {f t s k : Nat} (hb1 : BAt w (.slice a1 row.length c1) row) (hb2 : BAt w (.slice a2 qual.length c2) qual)
    (h1 : row.length ≤ 256) (h2 : qual.length ≤ 256) (h3 : f ≤ 7) (h4 : t ≤ 1099511627776) (h5 : s ≤ 17592186044431) (h6 : k ≤ 5) (h8 : k ≠ 5) (h9 : k ≠ 4) :
    Calls Tryz.prog 206 #[.agg #[.slice a1 row.length c1, .int .i64 (f : Int), .slice a2 qual.length c2, .int .i64 (t : Int), .int .i64 (s : Int), .int .i64 (k : Int), .slice none 0 0]] w fun x w' => ∃ v', x = .returned v' ∧ NewB w w' v' (ordB row ++ [UInt8.ofNat f] ++ [1] ++ ordB qual ++ [1] ++ eightB (9223372036854775807 - t) ++ eightB (9223372036854775807 - s) ++ [UInt8.ofNat k]) := by
  have HR0 := hid (heap_alloc_new w (.cells #[.slice a1 row.length c1, .int .i64 (f : Int), .slice a2 qual.length c2, .int .i64 (t : Int), .int .i64 (s : Int), .int .i64 (k : Int), .slice none 0 0] 215))
  have HU0 := hid ((Upd.refl (fun _ => False) w).alloc (.cells #[.slice a1 row.length c1, .int .i64 (f : Int), .slice a2 qual.length c2, .int .i64 (t : Int), .int .i64 (s : Int), .int .i64 (k : Int), .slice none 0 0] 215))
  have HO := hid (refOrdered_any (w := w.alloc (.cells #[.slice a1 row.length c1, .int .i64 (f : Int), .slice a2 qual.length c2, .int .i64 (t : Int), .int .i64 (s : Int), .int .i64 (k : Int), .slice none 0 0] 215)) (hb1.keep HU0.out) (by omega))
  have HB2 := hid hb2
  have HL1 := hid (ordB_len row); have HL2 := hid (ordB_len qual)
  have HH := hid (show row.length ≤ 256 ∧ qual.length ≤ 256 ∧ t ≤ 1099511627776 ∧ s ≤ 17592186044431 from ⟨h1, h2, h4, h5⟩)
  obtain ⟨p, hp⟩ : ∃ p, p = w.heap.size := ⟨_, rfl⟩
  rw [← hp] at HR0
  have HP := hid hp
  have hk5 : ((k : Int) == 5) = false := by simp; omega
  have hk4 : ((k : Int) == 4) = false := by simp; omega
  clear h8 h9
  clear hb1 hb2 hp h1 h2 h4 h5
  go_enter Tryz.func206, Tryz.ntmps206
  go_wp2_with fail
  refine HO.out.mono ?_
  rintro e w1 ⟨v1, rfl, hn1⟩
  rw [← HP.out]
  have HN1 := hid hn1
  obtain ⟨x1, y1, hv1, -, -⟩ := hn1.shape
  obtain ⟨m1, hm1⟩ : ∃ m, m = (ordB row).length := ⟨_, rfl⟩
  rw [← hm1] at hv1
  subst hv1
  clear hn1 hm1
  have HR1 := hid (HN1.out.upd.get HR0.out (fun e => e))
  obtain ⟨e0, e1, e2, e3, e4, e5, epl⟩ := entCells HR1.out
  have hbv : ([UInt8.ofNat f].map byteV).toArray = #[.int .u8 (f : Int)] := by first | rfl | (simp only [List.map_cons, List.map_nil, byteV, UInt8.toNat_ofNat']; congr 3; omega)
  obtain ⟨x2, m2, y2, w2, hr2, hn2⟩ := HN1.out.put [UInt8.ofNat f] #[.int .u8 (f : Int)] 1 hbv rfl (by have := HL1.out; have := HL2.out; have := HH.out; simp [eightB_len] at *; omega)
  have HG2 := hid hr2; have HN2 := hid hn2
  clear hr2 hn2 hbv
  go_upto_region 3 with (at_builtin; refine wpList_append_run rfl _ _ _ rfl rfl rfl HG2.out ?_)
  clear e0 e1 e2 e3 e4 e5 epl
  have HR2 := hid (HN2.out.upd.get HR0.out (fun e => e))
  obtain ⟨e0, e1, e2, e3, e4, e5, epl⟩ := entCells HR2.out
  have hbv : ([1].map byteV).toArray = #[.int .u8 1] := by first | rfl | (simp only [List.map_cons, List.map_nil, byteV, UInt8.toNat_ofNat']; congr 3; omega)
  obtain ⟨x3, m3, y3, w3, hr3, hn3⟩ := HN2.out.put [1] #[.int .u8 1] 1 hbv rfl (by have := HL1.out; have := HL2.out; have := HH.out; simp [eightB_len] at *; omega)
  have HG3 := hid hr3; have HN3 := hid hn3
  clear hr3 hn3 hbv
  go_upto_region 6 with (at_builtin; refine wpList_append_run rfl _ _ _ rfl rfl rfl HG3.out ?_)
  clear e0 e1 e2 e3 e4 e5 epl
  have HR3 := hid (HN3.out.upd.get HR0.out (fun e => e))
  obtain ⟨e0, e1, e2, e3, e4, e5, epl⟩ := entCells HR3.out
  have HC4 := hid (refOrdered_any (w := w3) (HB2.out.keep (HU0.out.trans HN3.out.upd (fun _ _ e => e))) (by have := HH.out; omega))
  go_wp2_with fail
  refine HC4.out.mono ?_
  rintro e w4 ⟨v4, rfl, hn4⟩
  have HDq := hid (show ∀ b, v4.ownBlock = some b → ¬ (Value.slice x3 m3 y3).ownBlock = some b from fun b e1 e2 => absurd (HN3.out.lt b e2) (Nat.not_lt.2 (hn4.new b e1)))
  have HN4 := hid (HN3.out.keep hn4.upd)
  have HSq := hid (hn4.rebase HN3.out.upd)
  obtain ⟨xs4, ys4, hv4, -, -⟩ := hn4.shape
  obtain ⟨ms4, hms4⟩ : ∃ m, m = (ordB qual).length := ⟨_, rfl⟩
  rw [← hms4] at hv4
  subst hv4
  clear hms4
  clear hn4
  clear e0 e1 e2 e3 e4 e5 epl
  have HR4 := hid (HN4.out.upd.get HR0.out (fun e => e))
  obtain ⟨e0, e1, e2, e3, e4, e5, epl⟩ := entCells HR4.out
  obtain ⟨x5, m5, y5, w5, hr5, hn5, hu5⟩ := HN4.out.glue2 HSq.out.data.bat (by have := HL1.out; have := HL2.out; have := HH.out; simp [eightB_len] at *; omega)
  have HG5 := hid hr5; have HN5 := hid hn5
  clear hr5 hn5 hu5
  go_upto_region 8 with (at_builtin; refine wpList_append_run rfl _ _ _ rfl rfl rfl HG5.out ?_)
  clear e0 e1 e2 e3 e4 e5 epl
  have HR5 := hid (HN5.out.upd.get HR0.out (fun e => e))
  obtain ⟨e0, e1, e2, e3, e4, e5, epl⟩ := entCells HR5.out
  have hbv : ([1].map byteV).toArray = #[.int .u8 1] := by first | rfl | (simp only [List.map_cons, List.map_nil, byteV, UInt8.toNat_ofNat']; congr 3; omega)
  obtain ⟨x6, m6, y6, w6, hr6, hn6⟩ := HN5.out.put [1] #[.int .u8 1] 1 hbv rfl (by have := HL1.out; have := HL2.out; have := HH.out; simp [eightB_len] at *; omega)
  have HG6 := hid hr6; have HN6 := hid hn6
  clear hr6 hn6 hbv
  go_upto_region 11 with (at_builtin; refine wpList_append_run rfl _ _ _ rfl rfl rfl HG6.out ?_)
  clear e0 e1 e2 e3 e4 e5 epl
  have HR6 := hid (HN6.out.upd.get HR0.out (fun e => e))
  obtain ⟨e0, e1, e2, e3, e4, e5, epl⟩ := entCells HR6.out
  have HC7 := hid (refFalling_any (w := w6) (n := t) (by have := HH.out; omega))
  go_wp2_with fail
  refine HC7.out.mono ?_
  rintro e w7 ⟨v7, rfl, hn7⟩
  have HDt := hid (show ∀ b, v7.ownBlock = some b → ¬ (Value.slice x6 m6 y6).ownBlock = some b from fun b e1 e2 => absurd (HN6.out.lt b e2) (Nat.not_lt.2 (hn7.new b e1)))
  have HN7 := hid (HN6.out.keep hn7.upd)
  have HSt := hid (hn7.rebase HN6.out.upd)
  obtain ⟨xs7, ys7, hv7, -, -⟩ := hn7.shape
  obtain ⟨ms7, hms7⟩ : ∃ m, m = (eightB (9223372036854775807 - t)).length := ⟨_, rfl⟩
  rw [← hms7] at hv7
  subst hv7
  clear hms7
  clear hn7
  clear e0 e1 e2 e3 e4 e5 epl
  have HR7 := hid (HN7.out.upd.get HR0.out (fun e => e))
  obtain ⟨e0, e1, e2, e3, e4, e5, epl⟩ := entCells HR7.out
  have HC8 := hid (refFalling_any (w := w7) (n := s) (by have := HH.out; omega))
  go_wp2_with fail
  refine HC8.out.mono ?_
  rintro e w8 ⟨v8, rfl, hn8⟩
  have HDs := hid (show ∀ b, v8.ownBlock = some b → ¬ (Value.slice x6 m6 y6).ownBlock = some b from fun b e1 e2 => absurd (HN7.out.lt b e2) (Nat.not_lt.2 (hn8.new b e1)))
  have HN8 := hid (HN7.out.keep hn8.upd)
  have HSs := hid (hn8.rebase HN7.out.upd)
  obtain ⟨xs8, ys8, hv8, -, -⟩ := hn8.shape
  obtain ⟨ms8, hms8⟩ : ∃ m, m = (eightB (9223372036854775807 - s)).length := ⟨_, rfl⟩
  rw [← hms8] at hv8
  subst hv8
  clear hms8
  have HSt := hid (HSt.out.keep hn8.upd)
  clear hn8
  clear e0 e1 e2 e3 e4 e5 epl
  have HR8 := hid (HN8.out.upd.get HR0.out (fun e => e))
  obtain ⟨e0, e1, e2, e3, e4, e5, epl⟩ := entCells HR8.out
  obtain ⟨x9, m9, y9, w9, hr9, hn9, hu9⟩ := HN8.out.glue2 HSt.out.data.bat (by have := HL1.out; have := HL2.out; have := HH.out; simp [eightB_len] at *; omega)
  have HG9 := hid hr9; have HN9 := hid hn9
  have HSs := hid (HSs.out.aside hu9 HDs.out hn9.upd)
  clear hr9 hn9 hu9
  go_upto_region 14 with (at_builtin; refine wpList_append_run rfl _ _ _ rfl rfl rfl HG9.out ?_)
  clear e0 e1 e2 e3 e4 e5 epl
  have HR9 := hid (HN9.out.upd.get HR0.out (fun e => e))
  obtain ⟨e0, e1, e2, e3, e4, e5, epl⟩ := entCells HR9.out
  obtain ⟨x10, m10, y10, w10, hr10, hn10, hu10⟩ := HN9.out.glue2 HSs.out.data.bat (by have := HL1.out; have := HL2.out; have := HH.out; simp [eightB_len] at *; omega)
  have HG10 := hid hr10; have HN10 := hid hn10
  clear hr10 hn10 hu10
  go_upto_region 15 with (at_builtin; refine wpList_append_run rfl _ _ _ rfl rfl rfl HG10.out ?_)
  clear e0 e1 e2 e3 e4 e5 epl
  have HR10 := hid (HN10.out.upd.get HR0.out (fun e => e))
  obtain ⟨e0, e1, e2, e3, e4, e5, epl⟩ := entCells HR10.out
  have hbv : ([UInt8.ofNat k].map byteV).toArray = #[.int .u8 (k : Int)] := by first | rfl | (simp only [List.map_cons, List.map_nil, byteV, UInt8.toNat_ofNat']; congr 3; omega)
  obtain ⟨x11, m11, y11, w11, hr11, hn11⟩ := HN10.out.put [UInt8.ofNat k] #[.int .u8 (k : Int)] 1 hbv rfl (by have := HL1.out; have := HL2.out; have := HH.out; simp [eightB_len] at *; omega)
  have HG11 := hid hr11; have HN11 := hid hn11
  clear hr11 hn11 hbv
  go_wp2_with (at_builtin; refine wpList_append_run rfl _ _ _ rfl rfl rfl HG11.out ?_)
  go_ret
  exact ⟨_, rfl, HN11.out.rebase HU0.out⟩

end Go.Proofs.YtgaidmohdhaonaaGreatDoor

namespace Go.Proofs.YtgaidmohdhaonaaGreatDoor
set_option linter.unusedVariables false
set_option linter.unusedSimpArgs false
set_option linter.unnecessarySimpa false
set_option linter.unusedSectionVars false
open Go Go.RowKit

theorem refKeyIn_any {w : World} {v : Value} {e : EntA} (hv : EntAt w v e) (hb : e.bad = 0) :
    Calls Tryz.prog 206 #[v] w fun x w' => ∃ v', x = .returned v' ∧ NewB w w' v' e.key := by
  obtain ⟨a1, c1, a2, c2, rfl, hb1, hb2⟩ := hv.eq
  obtain ⟨row, fam, qual, ts, seq, kind⟩ := e
  unfold EntA.bad at hb
  simp only at hb hb1 hb2 ⊢
  by_cases h1 : row.length < 1 ∨ 256 < row.length
  · rw [if_pos h1] at hb; omega
  rw [if_neg h1] at hb
  by_cases h2 : fam < 0 ∨ 7 < fam
  · rw [if_pos h2] at hb; omega
  rw [if_neg h2] at hb
  by_cases h3 : 256 < qual.length ∨ (kind = 5 ∧ 0 < qual.length)
  · rw [if_pos h3] at hb; omega
  rw [if_neg h3] at hb
  by_cases h4 : ts < 1 ∨ 1099511627776 < ts
  · rw [if_pos h4] at hb; omega
  rw [if_neg h4] at hb
  by_cases h5 : seq < 0 ∨ 17592186044431 < seq
  · rw [if_pos h5] at hb; omega
  rw [if_neg h5] at hb
  by_cases h6 : kind < 1 ∨ 5 < kind
  · rw [if_pos h6] at hb; omega
  clear hb
  obtain ⟨f, rfl⟩ : ∃ f : Nat, fam = f := ⟨fam.toNat, by omega⟩
  obtain ⟨t, rfl⟩ : ∃ t : Nat, ts = t := ⟨ts.toNat, by omega⟩
  obtain ⟨s, rfl⟩ : ∃ s : Nat, seq = s := ⟨seq.toNat, by omega⟩
  obtain ⟨k, rfl⟩ : ∃ k : Nat, kind = k := ⟨kind.toNat, by omega⟩
  unfold EntA.key
  simp only [Int.toNat_natCast]
  by_cases k5 : k = 5
  · subst k5
    refine (refKeyFam (f := f) (t := t) (s := s) hb1 hb2 (by omega) (by omega) (by omega) (by omega) (by omega)).mono ?_
    rintro x w' ⟨v', rfl, hn⟩
    refine ⟨v', rfl, ?_⟩
    simpa using hn
  · by_cases k4 : k = 4
    · subst k4
      refine (refKeyCol (f := f) (t := t) (s := s) hb1 hb2 (by omega) (by omega) (by omega) (by omega) (by omega)).mono ?_
      rintro x w' ⟨v', rfl, hn⟩
      refine ⟨v', rfl, ?_⟩
      simpa using hn
    · refine (refKeyPut (f := f) (t := t) (s := s) (k := k) hb1 hb2 (by omega) (by omega) (by omega) (by omega) (by omega) (by omega) k5 k4).mono ?_
      rintro x w' ⟨v', rfl, hn⟩
      refine ⟨v', rfl, ?_⟩
      have k5' : ¬ (k : Int) = 5 := by omega
      have k4' : ¬ (k : Int) = 4 := by omega
      rw [if_neg k5', if_neg k5', if_neg k4']
      simpa using hn

set_option maxRecDepth 100000 in
set_option maxHeartbeats 3200000 in
theorem refKey2_bad {w : World} {v : Value} {e : EntA} (hv : EntIs v e) (hb : e.bad ≠ 0) :
    Calls Tryz.prog 185 #[v] w fun x w' => x = .returned (.tuple #[.slice none 0 0, .int .i64 e.bad]) ∧ Upd (fun _ => False) w w' := by
  have HV := hid hv
  obtain ⟨a1, c1, a2, c2, rfl⟩ := hv
  obtain ⟨R, hR⟩ : ∃ R, R = e.bad := ⟨_, rfl⟩
  have hu := (Upd.refl (fun _ => False) w).alloc (.cells #[.slice a1 e.row.length c1, .int .i64 e.fam, .slice a2 e.qual.length c2, .int .i64 e.ts, .int .i64 e.seq, .int .i64 e.kind, .slice none 0 0] 215)
  have HC := hid (refCheck2_any (w := w.alloc (.cells #[.slice a1 e.row.length c1, .int .i64 e.fam, .slice a2 e.qual.length c2, .int .i64 e.ts, .int .i64 e.seq, .int .i64 e.kind, .slice none 0 0] 215)) HV.out)
  rw [← hR] at HC hb ⊢
  have hbi : (R != 0) = true := by simp; exact hb
  have HU := hid hu
  clear hu hR hb
  go_enter Tryz.func185, Tryz.ntmps185
  go_wp2_with fail
  refine HC.out.mono ?_
  rintro x w2 ⟨rfl, hu2⟩
  have HU2 := hid (HU.out.trans hu2 (fun _ _ e => e))
  clear hu2
  go_wp2
  go_ret2
  exact ⟨rfl, HU2.out⟩

set_option maxRecDepth 100000 in
set_option maxHeartbeats 3200000 in
theorem refKey2_any {w : World} {v : Value} {e : EntA} (hv : EntAt w v e) (hb : e.bad = 0) :
    Calls Tryz.prog 185 #[v] w fun x w' => ∃ v', x = .returned (.tuple #[v', .int .i64 0]) ∧ NewB w w' v' e.key := by
  have HV := hid hv
  obtain ⟨a1, c1, a2, c2, rfl, hb1, hb2⟩ := hv.eq
  have HB1 := hid hb1; have HB2 := hid hb2
  have HU := hid ((Upd.refl (fun _ => False) w).alloc (.cells #[.slice a1 e.row.length c1, .int .i64 e.fam, .slice a2 e.qual.length c2, .int .i64 e.ts, .int .i64 e.seq, .int .i64 e.kind, .slice none 0 0] 215))
  have HR0 := hid (heap_alloc_new w (.cells #[.slice a1 e.row.length c1, .int .i64 e.fam, .slice a2 e.qual.length c2, .int .i64 e.ts, .int .i64 e.seq, .int .i64 e.kind, .slice none 0 0] 215))
  have HC := hid (refCheck2_any (w := w.alloc (.cells #[.slice a1 e.row.length c1, .int .i64 e.fam, .slice a2 e.qual.length c2, .int .i64 e.ts, .int .i64 e.seq, .int .i64 e.kind, .slice none 0 0] 215)) HV.out.is)
  rw [hb] at HC
  have HB := hid hb
  obtain ⟨p, hp⟩ : ∃ p, p = w.heap.size := ⟨_, rfl⟩
  rw [← hp] at HR0
  have HP := hid hp
  clear hb1 hb2 hv hb hp
  go_enter Tryz.func185, Tryz.ntmps185
  go_wp2_with fail
  refine HC.out.mono ?_
  rintro x w2 ⟨rfl, hu2⟩
  rw [← HP.out]
  have HU2 := hid (HU.out.trans hu2 (fun _ _ e => e))
  have hr2 := hu2.get HR0.out (fun e => e)
  obtain ⟨e0, e1, e2, e3, e4, e5, epl⟩ := entCells hr2
  have e6 := cell_of_row _ _ 6 _ _ _ hr2
  have HK := hid (refKeyIn_any (w := w2) (⟨⟨a1, c1, a2, c2, rfl, HB1.out.keep HU2.out, HB2.out.keep HU2.out⟩⟩ : EntAt w2 _ e) HB.out)
  clear hu2 hr2
  go_wp2_with fail
  refine HK.out.mono ?_
  rintro x w3 ⟨v', rfl, hn⟩
  have HN := hid (hn.rebase HU2.out)
  clear hn
  go_wp2
  go_ret2
  exact ⟨_, rfl, HN.out⟩

end Go.Proofs.YtgaidmohdhaonaaGreatDoor
