/-
  stratalaw10.copied: a version in new memory.
  stratalaw10.laid: a version whose lists are cut out of longer ones.
-/
import Derived.Test.YthklehpkfndohaaGreatDoorYU
import Derived.Test.YthklehpkfndohaaGreatDoorZK
namespace Go.Proofs.YthklehpkfndohaaGreatDoor
set_option linter.unusedVariables false
set_option linter.unusedSimpArgs false
set_option linter.unnecessarySimpa false
set_option linter.unusedSectionVars false
open Go Go.RowKit

/-- One run is appended, however many there are. -/
theorem RunsOwn.push2 {W W1 : World} {base : Nat} {v : Value} {L : List MV} (h : RunsOwn W base v L) (x : MV) (hf : DataIs W x.f x.m.first) (hl : DataIs W x.l x.m.last) (hb : base ≤ W.heap.size) (hn : (L.length + 1) * 96 ≤ 140737488355328) (hW : W1 = W.alloc (.cells x.cells.toArray 60)) :
    ∃ ao cap w2, (Builtin.append_ #[25, 25] 25 #[v, .slice (some ⟨W.heap.size, 0, none⟩) 1 1]).run Tryz.prog W1 = .ok (.slice ao (L.length + 1) cap) w2 ∧ RunsOwn w2 base (.slice ao (L.length + 1) cap) (L ++ [x]) ∧ Upd (fun k => v.ownBlock = some k) W w2 := by
  obtain ⟨i0, hi, hz0, hz1, hz2⟩ := info_parts Tryz.infoMeta
  obtain ⟨a1, c1, e1, -⟩ := hf.bat
  obtain ⟨a2, c2, e2, -⟩ := hl.bat
  have hu : Upd (fun _ => False) W W1 := by rw [hW]; exact (Upd.refl _ _).alloc _
  have hrow1 := owns_upd h.row hu (fun _ _ e => e)
  have hblk : W1.heap[W.heap.size]? = some (.cells x.cells.toArray 60 (0, 0)) := by rw [hW]; exact heap_alloc_new _ _
  obtain ⟨v', w2, hr, hown, hg, -⟩ := run_append_own (P := Tryz.prog) W1 base 25 25 60 i0 _ 8 96 Tryz.underlying25 hi hz0 hz1 hz2 rfl (by decide) v L.length _ hrow1 ⟨W.heap.size, 0, none⟩ 1 1 x.cells rfl
    (World.news_of_block (cs := x.cells.toArray) hblk) (by intro u hu; simp only [MV.cells, List.mem_cons, List.not_mem_nil, or_false] at hu; rcases hu with rfl | rfl | rfl | rfl | rfl | rfl | rfl | rfl <;> first | rfl | (rw [e1]; rfl) | (rw [e2]; rfl)) (by unfold maxLen; omega) (by omega) (Nat.le_trans hb hu.size)
  have hup : Upd (fun k => v.ownBlock = some k) W w2 := (hu.mono (fun _ _ e => e.elim)).grown hg (fun k hk _ => hk)
  have hT : ∀ k, v.ownBlock = some k → ∀ cur fr, W.heap[k]? ≠ some (.cells cur 5 fr) := by
    intro k hk cur fr hh
    obtain ⟨-, hh2⟩ := h.row
    rcases hh2 with ⟨rfl, -⟩ | ⟨g, cap, cur', rfl, -, hg', -⟩
    · cases hk
    · simp only [Value.ownBlock, Option.some.injEq] at hk
      subst hk
      rw [hg'] at hh
      injection hh with hh
      injection hh with _ hh
      exact absurd hh (by decide)
  have hro : RunsOwn w2 base v' (L ++ [x]) := by
    refine ⟨by simpa using hown, fun y hy => ?_⟩
    rcases List.mem_append.1 hy with hy | hy
    · exact ⟨(h.data y hy).1.keepT hup hT, (h.data y hy).2.keepT hup hT⟩
    · rw [List.mem_singleton] at hy
      subst hy
      exact ⟨hf.keepT hup hT, hl.keepT hup hT⟩
  obtain ⟨ao, cap, hv'⟩ := hro.slice
  rw [List.length_append, List.length_singleton] at hv'
  subst hv'
  exact ⟨ao, cap, w2, hr, hro, hup⟩

theorem metaCells {W : World} {p : Nat} {x0 x1 x2 x3 x4 x5 x6 x7 : Value} (h : W.heap[p]? = some (.cells #[x0, x1, x2, x3, x4, x5, x6, x7] 60 (0, 0))) :
    (W.cell? ⟨p, 0, none⟩ = some x0 ∧ W.cell? ⟨p, 1, none⟩ = some x1 ∧ W.cell? ⟨p, 2, none⟩ = some x2 ∧ W.cell? ⟨p, 3, none⟩ = some x3 ∧ W.cell? ⟨p, 4, none⟩ = some x4 ∧ W.cell? ⟨p, 5, none⟩ = some x5 ∧ W.cell? ⟨p, 6, none⟩ = some x6 ∧ W.cell? ⟨p, 7, none⟩ = some x7) ∧
    W.frozen? ⟨p, 6, none⟩ = false ∧ W.frozen? ⟨p, 7, none⟩ = false ∧ p < W.heap.size :=
  ⟨⟨cell_of_row _ _ 0 _ _ _ h, cell_of_row _ _ 1 _ _ _ h, cell_of_row _ _ 2 _ _ _ h, cell_of_row _ _ 3 _ _ _ h, cell_of_row _ _ 4 _ _ _ h, cell_of_row _ _ 5 _ _ _ h, cell_of_row _ _ 6 _ _ _ h, cell_of_row _ _ 7 _ _ _ h⟩,
    frozen_of_row _ _ _ _ _ h, frozen_of_row _ _ _ _ _ h, lt_of_heap h⟩

/-- A version that is copied, in its boxes. -/
structure CpS (w W : World) (p1 p2 : Nat) (x : VerA) (sv rsrc rs : Value) (L : List MV) : Prop where
  upd : Upd (fun _ => False) w W
  r1 : W.heap[p1]? = some (.cells (verC x.gen x.flushed x.next x.low x.clock sv rsrc) 27 (0, 0))
  r2 : W.heap[p2]? = some (.cells (verC 0 0 0 0 0 (.slice none 0 0) (.slice none 0 0)) 27 (0, 0))
  n1 : w.heap.size ≤ p1
  n2 : w.heap.size ≤ p2
  ne : p1 ≠ p2
  st : DataIs W sv x.state
  runs : RunsOwn W w.heap.size rs L
  own : (sv.ownBlock.toList ++ keyBlocks L).Nodup ∧ ∀ k ∈ sv.ownBlock.toList ++ keyBlocks L, w.heap.size ≤ k

theorem CpS.keep {w W W1 : World} {p1 p2 : Nat} {x : VerA} {sv rsrc rs : Value} {L : List MV} (h : CpS w W p1 p2 x sv rsrc rs L) (hu : Upd (fun _ => False) W W1) : CpS w W1 p1 p2 x sv rsrc rs L :=
  ⟨h.upd.trans hu (fun _ _ e => e), hu.get h.r1 (fun e => e), hu.get h.r2 (fun e => e), h.n1, h.n2, h.ne, h.st.upd hu (fun _ _ e => e), h.runs.keepT hu (fun _ e => e.elim), h.own⟩

theorem CpS.fresh {w W : World} {p1 p2 : Nat} {x : VerA} {sv rsrc rs : Value} {L : List MV} (h : CpS w W p1 p2 x sv rsrc rs L) {k : Nat} (hk : W.heap.size ≤ k) : w.heap.size ≤ k ∧ k ∉ sv.ownBlock.toList ++ keyBlocks L := by
  refine ⟨Nat.le_trans h.upd.size hk, fun e => ?_⟩
  have hlt : k < W.heap.size := by
    rcases List.mem_append.1 e with e | e
    · exact h.st.lt k (by simpa using e)
    · obtain ⟨y, hy, e⟩ := List.mem_flatMap.1 e
      rcases List.mem_append.1 e with e | e
      · exact (h.runs.data y hy).1.lt k (by simpa using e)
      · exact (h.runs.data y hy).2.lt k (by simpa using e)
  omega

/-- A run has joined. -/
theorem CpS.join {w W w2 : World} {p1 p2 : Nat} {x : VerA} {sv rsrc rs rs' : Value} {L : List MV} {y : MV} (h : CpS w W p1 p2 x sv rsrc rs L) (hro : RunsOwn w2 w.heap.size rs' (L ++ [y])) (hu : Upd (fun k => rs.ownBlock = some k) W w2)
    (hf1 : ∀ k, y.f.ownBlock = some k → w.heap.size ≤ k ∧ k ∉ sv.ownBlock.toList ++ keyBlocks L) (hf2 : ∀ k, y.l.ownBlock = some k → w.heap.size ≤ k ∧ k ∉ sv.ownBlock.toList ++ keyBlocks L) (hf3 : ∀ k, y.f.ownBlock = some k → y.l.ownBlock ≠ some k) :
    CpS w w2 p1 p2 x sv rsrc rs' (L ++ [y]) := by
  have hty : ∀ k, rs.ownBlock = some k → ∃ cur, W.heap[k]? = some (.cells cur 60 (0, 0)) ∧ w.heap.size ≤ k := by
    intro k hk
    obtain ⟨-, hh2⟩ := h.runs.row
    rcases hh2 with ⟨rfl, -⟩ | ⟨g, cap, cur', rfl, hb, hg', -⟩
    · cases hk
    · simp only [Value.ownBlock, Option.some.injEq] at hk
      subst hk
      exact ⟨_, hg', hb⟩
  have hT : ∀ k, rs.ownBlock = some k → ∀ cur fr, W.heap[k]? ≠ some (.cells cur 5 fr) := by
    intro k hk cur fr
    obtain ⟨cur', hc, -⟩ := hty k hk
    exact not_ty hc (by decide) cur fr
  refine ⟨h.upd.trans hu (fun k hk e => by obtain ⟨_, _, h9⟩ := hty k e; omega), hu.get h.r1 (fun e => by obtain ⟨cur, hc, -⟩ := hty _ e; exact not_ty h.r1 (by decide) _ _ hc), hu.get h.r2 (fun e => by obtain ⟨cur, hc, -⟩ := hty _ e; exact not_ty h.r2 (by decide) _ _ hc), h.n1, h.n2, h.ne, h.st.keepT hu hT, hro, ?_⟩
  have e : sv.ownBlock.toList ++ keyBlocks (L ++ [y]) = (sv.ownBlock.toList ++ keyBlocks L) ++ (y.f.ownBlock.toList ++ y.l.ownBlock.toList) := by simp [keyBlocks]
  rw [e]
  refine ⟨List.nodup_append.2 ⟨h.own.1, ?_, ?_⟩, ?_⟩
  · refine List.nodup_append.2 ⟨by cases y.f.ownBlock <;> simp, by cases y.l.ownBlock <;> simp, ?_⟩
    intro a ha b hb hab
    subst hab
    exact hf3 a (by simpa using ha) (by simpa using hb)
  · intro a ha b hb hab
    subst hab
    rcases List.mem_append.1 hb with hb | hb
    · exact (hf1 a (by simpa using hb)).2 ha
    · exact (hf2 a (by simpa using hb)).2 ha
  · intro k hk
    rcases List.mem_append.1 hk with hk | hk
    · exact h.own.2 k hk
    · rcases List.mem_append.1 hk with hk | hk
      · exact (hf1 k (by simpa using hk)).1
      · exact (hf2 k (by simpa using hk)).1

set_option maxRecDepth 100000 in
set_option maxHeartbeats 6400000 in
theorem copied_any {w : World} {v : Value} {x : VerA} (hv : VerAt w v x) (hin : VerIn x) :
    Calls Tryz.prog 13 #[v] w fun e w' => ∃ v', e = .returned v' ∧ VerOwn w' w.heap.size v' x ∧ Upd (fun _ => False) w w' := by
  have HV := hid hv; have HIN := hid hin
  obtain ⟨s1, d1, s2, d2, rfl, hb, hr⟩ := hv
  have HB := hid hb; have HRX := hid hr
  obtain ⟨m1, hm1⟩ : ∃ m, m = x.state.length := ⟨_, rfl⟩
  obtain ⟨nx, hnx⟩ : ∃ m, m = x.runs.length := ⟨_, rfl⟩
  rw [← hm1] at HB ⊢
  rw [← hnx] at HRX ⊢
  have HM1 := hid hm1; have HNX := hid hnx
  have hnb : nx * 96 ≤ 140737488351232 := by rw [hnx]; exact hin.2.2.2.2.2.2.1
  clear hin hb hr hm1 hnx
  have hu2 := ((Upd.refl (fun _ => False) w).alloc (.cells #[.int .i64 x.gen, .int .i64 x.flushed, .int .i64 x.next, .int .i64 x.low, .int .i64 x.clock, .slice s1 m1 d1, .slice s2 nx d2] 27)).alloc (.cells #[.int .i64 0, .int .i64 0, .int .i64 0, .int .i64 0, .int .i64 0, .slice none 0 0, .slice none 0 0] 27)
  have hra := heap_alloc_new w (.cells #[.int .i64 x.gen, .int .i64 x.flushed, .int .i64 x.next, .int .i64 x.low, .int .i64 x.clock, .slice s1 m1 d1, .slice s2 nx d2] 27)
  have hra2 : ((w.alloc (.cells #[.int .i64 x.gen, .int .i64 x.flushed, .int .i64 x.next, .int .i64 x.low, .int .i64 x.clock, .slice s1 m1 d1, .slice s2 nx d2] 27)).alloc (.cells #[.int .i64 0, .int .i64 0, .int .i64 0, .int .i64 0, .int .i64 0, .slice none 0 0, .slice none 0 0] 27)).heap[w.heap.size]? = some (.cells #[.int .i64 x.gen, .int .i64 x.flushed, .int .i64 x.next, .int .i64 x.low, .int .i64 x.clock, .slice s1 m1 d1, .slice s2 nx d2] 27 (0, 0)) := by rw [heap_alloc_past _ _ _ (by simp)]; exact hra
  have hrb := heap_alloc_new (w.alloc (.cells #[.int .i64 x.gen, .int .i64 x.flushed, .int .i64 x.next, .int .i64 x.low, .int .i64 x.clock, .slice s1 m1 d1, .slice s2 nx d2] 27)) (.cells #[.int .i64 0, .int .i64 0, .int .i64 0, .int .i64 0, .int .i64 0, .slice none 0 0, .slice none 0 0] 27)
  rw [World.size_alloc] at hrb
  go_enter Tryz.func13, Tryz.ntmps13
  go_upto_region 1 with fail
  obtain ⟨p1, hp1⟩ : ∃ p, p = w.heap.size := ⟨_, rfl⟩
  obtain ⟨p2, hp2⟩ : ∃ p, p = w.heap.size + 1 := ⟨_, rfl⟩
  rw [← hp1] at hra2
  rw [← hp2] at hrb
  rw [← hp2, ← hp1]
  have HU2 := hid hu2; have HRA := hid hra2; have HRB := hid hrb
  have HPP := hid (show w.heap.size ≤ p1 ∧ w.heap.size ≤ p2 ∧ p1 ≠ p2 from ⟨by omega, by omega, by omega⟩)
  generalize (w.alloc (.cells #[.int .i64 x.gen, .int .i64 x.flushed, .int .i64 x.next, .int .i64 x.low, .int .i64 x.clock, .slice s1 m1 d1, .slice s2 nx d2] 27)).alloc (.cells #[.int .i64 0, .int .i64 0, .int .i64 0, .int .i64 0, .int .i64 0, .slice none 0 0, .slice none 0 0] 27) = W2 at HU2 HRA HRB ⊢
  clear hu2 hra hra2 hrb hp1 hp2
  obtain ⟨⟨z0, z1, z2, z3, z4, z5, z6⟩, ⟨f0, f1, f2, f3, f4, f5, f6⟩, hzl⟩ := verCells HRA.out
  have hpt := refPart_any (b := x.state) (cap := d1) (ao := s1) (by have h := HB.out.keep HU2.out; rw [HM1.out] at h; exact h) (lo := 0) (hi := x.state.length) (by omega) (by omega) HIN.out.2.2.2.2.2.1
  rw [List.drop_zero, Nat.sub_zero, List.take_length, ← HM1.out] at hpt
  have HPT := hid hpt
  clear hpt z0 z1 z2 z3 z4 z6 f0 f1 f2 f3 f4 f6
  go_wp2_with fail
  refine HPT.out.mono ?_
  rintro e W3 ⟨v3, rfl, hn3⟩
  obtain ⟨a3, c3, e3, -, -⟩ := hn3.shape
  rw [← HM1.out] at e3
  subst e3
  have hr3 := hn3.upd.get HRA.out (fun e => e)
  obtain ⟨⟨z0, z1, z2, z3, z4, z5', z6⟩, ⟨f0, f1, f2, f3, f4, f5', f6⟩, hzl'⟩ := verCells hr3
  have HR3 := hid hr3; have HN3 := hid hn3
  clear hn3 hr3 z0 z1 z2 z3 z4 z6 f0 f1 f2 f3 f4 f6 z5 f5 hzl HPT
  go_upto_region 2 with fail
  have hu4 : Upd (fun k => k = p1) W3 (W3.setCell ⟨p1, 5, none⟩ (.slice a3 m1 c3)) := Upd.cell_only _ _ _ _
  have hr4 := heap_setCell_at W3 p1 5 _ _ (.slice a3 m1 c3) HR3.out
  have hcp : CpS w (W3.setCell ⟨p1, 5, none⟩ (.slice a3 m1 c3)) p1 p2 x (.slice a3 m1 c3) (.slice s2 nx d2) (.slice none 0 0) [] := by
    obtain ⟨q1, q2, q3⟩ := HPP.out
    refine ⟨(HU2.out.trans HN3.out.upd (fun _ _ e => e)).trans hu4 (fun k hk e => by omega), by simpa [verC] using hr4, hu4.get (HN3.out.upd.get HRB.out (fun e => e)) (fun e => q3 e.symm), q1, q2, q3, HN3.out.data.upd hu4 (fun k e e2 => ?_), RunsOwn.nil _ _, own_one (fun k e => Nat.le_trans HU2.out.size (HN3.out.new k e))⟩
    have h1 := HN3.out.new k e
    have h2 := lt_of_heap HRA.out
    omega
  have HCP := hid hcp
  generalize W3.setCell ⟨p1, 5, none⟩ (.slice a3 m1 c3) = W4 at HCP ⊢
  clear hu4 hr4 hcp HN3 HR3 HRA HRB z5' f5' hzl'
  go_wp2
  go_loopw [3, 4] (fun lv iv wr => ∃ k : Nat, iv = .int .i64 k ∧ k ≤ nx ∧ ∃ ra rc L, lv = .slice ra (L : List MV).length rc ∧ CpS w wr p1 p2 x (.slice a3 m1 c3) (.slice s2 nx d2) (.slice ra L.length rc) L ∧ L.map MV.m = x.runs.take k) (fun _ iv _ => nx - (intOf iv).toNat)
  case atStart => exact ⟨0, rfl, by omega, none, 0, [], rfl, HCP.out, rfl⟩
  case round =>
    obtain ⟨k, rfl, hk, ra, rc, L, rfl, hcp, hLk⟩ := hrel
    have HC := hid hcp; have HLK := hid hLk
    obtain ⟨wo, rfl⟩ : ∃ wo, wo = wr := ⟨_, rfl⟩
    have HLEN := hid (show L.length = k from by have h := congrArg List.length hLk; rw [List.length_map, List.length_take] at h; have := HNX.out; omega)
    obtain ⟨LL, hLL⟩ : ∃ LL, LL = L.length := ⟨_, rfl⟩
    rw [← hLL] at HC ⊢
    have HLL := hid hLL
    clear hcp hLk hLL HCP
    obtain ⟨⟨z0, z1, z2, z3, z4, z5, z6⟩, ⟨f0, f1, f2, f3, f4, f5, f6⟩, hzl⟩ := verCells HC.out.r1
    clear z0 z1 z2 z3 z4 z5 f0 f1 f2 f3 f4 f5
    by_cases hlt : k < nx
    · have hkx : k < x.runs.length := by have := HNX.out; omega
      have h1 := HRX.out.keep HC.out.upd
      obtain ⟨xa, xc, ex, hx1, hx2, hx3⟩ := h1
      injection ex with ex1 ex2 ex3
      subst ex1; subst ex3
      clear ex2
      obtain ⟨bx, ox, g1, k1, g2, k2, rfl, hbx, t0, t1, t2, t3, t4, t5, t6, t7, hB1, hB2⟩ := hx3 k hkx
      obtain ⟨r, hr⟩ : ∃ r, r = x.runs[k] := ⟨_, rfl⟩
      rw [← hr] at t0 t1 t2 t3 t4 t5 t6 t7 hB1 hB2
      have HMI := hid (show MetaIn r from by rw [hr]; exact HIN.out.2.2.2.2.2.2.2 _ (List.getElem_mem hkx))
      have HTK := hid (show x.runs.take (k + 1) = x.runs.take k ++ [r] from by rw [hr, List.take_succ_eq_append_getElem hkx])
      obtain ⟨l1, hl1⟩ : ∃ l, l = r.first.length := ⟨_, rfl⟩
      obtain ⟨l2, hl2⟩ : ∃ l, l = r.last.length := ⟨_, rfl⟩
      rw [← hl1] at t6 hB1
      rw [← hl2] at t7 hB2
      have HL1 := hid hl1; have HL2 := hid hl2; have HB1 := hid hB1; have HB2 := hid hB2
      have hxc : (k : Int) < (d2 : Int) := by omega
      have hu5 := (Upd.refl (fun _ => False) wo).alloc (.cells #[.int .i64 r.num, .int .i64 r.count, .int .i64 r.index, .int .i64 r.low, .int .i64 r.clock, .int .i64 r.bytes, .slice g1 l1 k1, .slice g2 l2 k2] 60)
      have hr5 := heap_alloc_new wo (.cells #[.int .i64 r.num, .int .i64 r.count, .int .i64 r.index, .int .i64 r.low, .int .i64 r.clock, .int .i64 r.bytes, .slice g1 l1 k1, .slice g2 l2 k2] 60)
      clear hx3 hB1 hB2 hr hkx hx1 hx2 hl1 hl2
      go_upto_region 7 with fail
      obtain ⟨p5, hp5⟩ : ∃ p, p = wo.heap.size := ⟨_, rfl⟩
      rw [← hp5] at hr5 ⊢
      have HP5 := hid hp5; have HU5 := hid hu5; have HR5 := hid hr5
      generalize wo.alloc (.cells #[.int .i64 r.num, .int .i64 r.count, .int .i64 r.index, .int .i64 r.low, .int .i64 r.clock, .int .i64 r.bytes, .slice g1 l1 k1, .slice g2 l2 k2] 60) = W5 at HU5 HR5 ⊢
      have HP5L := hid (lt_of_heap HR5.out)
      clear hu5 hr5 hp5 t0 t1 t2 t3 t4 t5 t6 t7 z6 f6 hzl
      have hpt := refPart_any (b := r.first) (cap := k1) (ao := g1) (by have h := HB1.out.keep HU5.out; rw [HL1.out] at h; exact h) (lo := 0) (hi := r.first.length) (by omega) (by omega) HMI.out.2.2.2.2.2.2.1
      rw [List.drop_zero, Nat.sub_zero, List.take_length, ← HL1.out] at hpt
      have HPT := hid hpt
      obtain ⟨⟨z0, z1, z2, z3, z4, z5, z6, z7⟩, f6, f7, hzl⟩ := metaCells HR5.out
      clear hpt z0 z1 z2 z3 z4 z5 z7
      go_wp2_with fail
      refine HPT.out.mono ?_
      rintro e W6 ⟨v6, rfl, hn6⟩
      obtain ⟨a6, c6, e6, -, -⟩ := hn6.shape
      rw [← HL1.out] at e6
      subst e6
      have HR6 := hid (hn6.upd.get HR5.out (fun e => e)); have HN6 := hid hn6
      clear z6 f6 f7 hzl HPT hn6
      obtain ⟨⟨z0, z1, z2, z3, z4, z5, z6, z7⟩, f6, f7, hzl⟩ := metaCells HR6.out
      clear z0 z1 z2 z3 z4 z5 z7
      go_upto_region 8 with fail
      have hu7 : Upd (fun k => k = p5) W6 (W6.setCell ⟨p5, 6, none⟩ (.slice a6 l1 c6)) := Upd.cell_only _ _ _ _
      have hr7 := heap_setCell_at W6 p5 6 _ _ (.slice a6 l1 c6) HR6.out
      have HR7 := hid (show (W6.setCell ⟨p5, 6, none⟩ (.slice a6 l1 c6)).heap[p5]? = some (.cells #[.int .i64 r.num, .int .i64 r.count, .int .i64 r.index, .int .i64 r.low, .int .i64 r.clock, .int .i64 r.bytes, .slice a6 l1 c6, .slice g2 l2 k2] 60 (0, 0)) from by simpa using hr7)
      have HU7 := hid (show Upd (fun _ => False) wo (W6.setCell ⟨p5, 6, none⟩ (.slice a6 l1 c6)) from (HU5.out.trans HN6.out.upd (fun _ _ e => e)).trans hu7 (fun k hk e => by have := HP5.out; omega))
      have HD6 := hid (HN6.out.data.upd hu7 (fun k e e2 => by have h1 := HN6.out.new k e; have h2 := lt_of_heap HR5.out; omega))
      have HF6 := hid (show ∀ k, (Value.slice a6 l1 c6).ownBlock = some k → wo.heap.size ≤ k from fun k e => Nat.le_trans HU5.out.size (HN6.out.new k e))
      generalize W6.setCell ⟨p5, 6, none⟩ (.slice a6 l1 c6) = W7 at HR7 HU7 HD6 ⊢
      clear hu7 hr7 z6 f6 f7 hzl HR6 HR5
      have hpt := refPart_any (b := r.last) (cap := k2) (ao := g2) (by have h := HB2.out.keep HU7.out; rw [HL2.out] at h; exact h) (lo := 0) (hi := r.last.length) (by omega) (by omega) HMI.out.2.2.2.2.2.2.2
      rw [List.drop_zero, Nat.sub_zero, List.take_length, ← HL2.out] at hpt
      have HPT := hid hpt
      obtain ⟨⟨z0, z1, z2, z3, z4, z5, z6, z7⟩, f6, f7, hzl⟩ := metaCells HR7.out
      clear hpt z0 z1 z2 z3 z4 z5 z6
      go_wp2_with fail
      refine HPT.out.mono ?_
      rintro e W8 ⟨v8, rfl, hn8⟩
      obtain ⟨a8, c8, e8, -, -⟩ := hn8.shape
      rw [← HL2.out] at e8
      subst e8
      have HR8 := hid (hn8.upd.get HR7.out (fun e => e)); have HN8 := hid hn8
      clear z7 f6 f7 hzl HPT hn8
      obtain ⟨⟨z0, z1, z2, z3, z4, z5, z6, z7⟩, f6, f7, hzl⟩ := metaCells HR8.out
      clear z0 z1 z2 z3 z4 z5 z6
      go_upto_region 9 with fail
      have hu9 : Upd (fun k => k = p5) W8 (W8.setCell ⟨p5, 7, none⟩ (.slice a8 l2 c8)) := Upd.cell_only _ _ _ _
      have hr9 := heap_setCell_at W8 p5 7 _ _ (.slice a8 l2 c8) HR8.out
      have HR9 := hid (show (W8.setCell ⟨p5, 7, none⟩ (.slice a8 l2 c8)).heap[p5]? = some (.cells #[.int .i64 r.num, .int .i64 r.count, .int .i64 r.index, .int .i64 r.low, .int .i64 r.clock, .int .i64 r.bytes, .slice a6 l1 c6, .slice a8 l2 c8] 60 (0, 0)) from by simpa using hr9)
      have HU9 := hid (show Upd (fun _ => False) wo (W8.setCell ⟨p5, 7, none⟩ (.slice a8 l2 c8)) from (HU7.out.trans HN8.out.upd (fun _ _ e => e)).trans hu9 (fun k hk e => by have := HP5.out; omega))
      have HD8 := hid (HN8.out.data.upd hu9 (fun k e e2 => by have h1 := HN8.out.new k e; have h2 := lt_of_heap HR7.out; omega))
      have HD6' := hid ((HD6.out.upd HN8.out.upd (fun _ _ e => e)).upd hu9 (fun k e e2 => by have h1 := HN6.out.new k e; have h2 := HP5L.out; omega))
      have HF8 := hid (show ∀ k, (Value.slice a8 l2 c8).ownBlock = some k → wo.heap.size ≤ k ∧ (Value.slice a6 l1 c6).ownBlock ≠ some k from fun k e => ⟨Nat.le_trans HU7.out.size (HN8.out.new k e), fun e2 => by have h1 := HN8.out.new k e; have h2 := HD6.out.lt k e2; omega⟩)
      generalize W8.setCell ⟨p5, 7, none⟩ (.slice a8 l2 c8) = W9 at HR9 HU9 HD8 HD6' ⊢
      clear hu9 hr9 z7 f6 f7 hzl HR8 HR7
      have HC9 := hid (HC.out.keep HU9.out)
      obtain ⟨ao, cap, w10, hrun, hro, hu10⟩ := HC9.out.runs.push2 ⟨r, .slice a6 l1 c6, .slice a8 l2 c8⟩ HD6'.out HD8.out HC9.out.upd.size (by have := HLEN.out; omega) rfl
      have hj := HC9.out.join hro hu10 (fun k e => HC.out.fresh (HF6.out k e)) (fun k e => HC.out.fresh (HF8.out k e).1) (fun k e e2 => (HF8.out k e2).2 e)
      rw [← HLL.out] at hrun hj
      have HRUN : Hid ((Builtin.append_ #[25, 25] 25 #[.slice ra LL rc, .slice (some ⟨W9.heap.size, 0, none⟩) 1 1]).run Tryz.prog (W9.alloc (.cells #[.int .i64 r.num, .int .i64 r.count, .int .i64 r.index, .int .i64 r.low, .int .i64 r.clock, .int .i64 r.bytes, .slice a6 l1 c6, .slice a8 l2 c8] 60)) = .ok (.slice ao (LL + 1) cap) w10) := hid hrun
      have HJ := hid hj
      obtain ⟨⟨z0, z1, z2, z3, z4, z5, z6, z7⟩, f6, f7, hzl⟩ := metaCells HR9.out
      clear hrun hro hu10 hj
      go_wp2_with (at_builtin; refine wpList_append_run rfl _ _ _ rfl rfl rfl HRUN.out ?_)
      go_roundw
      case rel => exact ⟨k + 1, by simp, by omega, ao, cap, L ++ [⟨r, .slice a6 l1 c6, .slice a8 l2 c8⟩], by rw [List.length_append, List.length_singleton, ← HLL.out], by rw [List.length_append, List.length_singleton, ← HLL.out]; exact HJ.out, by rw [List.map_append, HLK.out, HTK.out]; rfl⟩
      case measure => simp [intOf]; omega
    · obtain rfl : k = nx := by omega
      have HMAP := hid (show L.map MV.m = x.runs from by rw [HLK.out, HNX.out, List.take_length])
      have hq : Upd (fun k => k = p1) wo (wo.setCell ⟨p1, 6, none⟩ (.slice ra LL rc)) := Upd.cell_only _ _ _ _
      have hq1 := heap_setCell_at wo p1 6 _ _ (.slice ra LL rc) HC.out.r1
      have hq2 := hq.get HC.out.r2 (fun e => HC.out.ne e.symm)
      go_upto_region 11 with fail
      have HQ := hid hq; have HQ1 := hid (show (wo.setCell ⟨p1, 6, none⟩ (.slice ra LL rc)).heap[p1]? = some (.cells (verC x.gen x.flushed x.next x.low x.clock (.slice a3 m1 c3) (.slice ra LL rc)) 27 (0, 0)) from by simpa [verC] using hq1); have HQ2 := hid hq2
      have HNT := hid (show ∀ k, k = p1 → ∀ cur fr, wo.heap[k]? ≠ some (.cells cur 5 fr) ∧ wo.heap[k]? ≠ some (.cells cur 60 fr) from by rintro k rfl cur fr; exact ⟨not_ty HC.out.r1 (by decide) cur fr, not_ty HC.out.r1 (by decide) cur fr⟩)
      have HST := hid (HC.out.st.keepT hq (fun k e cur fr => (HNT.out k e cur fr).1))
      have HRN := hid (HC.out.runs.keepT hq HNT.out)
      generalize wo.setCell ⟨p1, 6, none⟩ (.slice ra LL rc) = Wa at HQ HQ1 HQ2 HST HRN ⊢
      clear hq hq1 hq2 z6 f6 hzl
      obtain ⟨⟨z0, z1, z2, z3, z4, z5, z6⟩, -, hzl⟩ := verCells HQ1.out
      obtain ⟨⟨y0, y1, y2, y3, y4, y5, y6⟩, ⟨f0, f1, f2, f3, f4, f5, f6⟩, hyl⟩ := verCells HQ2.out
      have HO := hid (verOut_at HQ2.out x.gen x.flushed x.next x.low x.clock (.slice a3 m1 c3) (.slice ra LL rc))
      have HOU := hid (verOut_upd (S := fun k => k = p2) (Upd.refl _ Wa) (p := p2) (fun _ => rfl) x.gen x.flushed x.next x.low x.clock (.slice a3 m1 c3) (.slice ra LL rc))
      have HNT2 := hid (show ∀ k, k = p2 → ∀ cur fr, Wa.heap[k]? ≠ some (.cells cur 5 fr) ∧ Wa.heap[k]? ≠ some (.cells cur 60 fr) from by rintro k rfl cur fr; exact ⟨not_ty HQ2.out (by decide) cur fr, not_ty HQ2.out (by decide) cur fr⟩)
      have hne2 : p1 ≠ p2 := HC.out.ne
      go_wp2
      (try simp only [Exit.inBlock, Exit.then])
      refine bodyPost_ret (results_ver1 rfl _ _ p2 _ rfl rfl HO.out) rfl ?_
      refine ⟨_, rfl, ⟨_, _, L, rfl, HST.out.keepT HOU.out (fun k e cur fr => (HNT2.out k e cur fr).1), HRN.out.keepT HOU.out HNT2.out, HMAP.out.symm, HC.out.own.1, HC.out.own.2⟩, ?_⟩
      exact (HC.out.upd.trans HQ.out (fun k hk e => by have := HC.out.n1; omega)).trans HOU.out (fun k hk e => by have := HC.out.n2; omega)

end Go.Proofs.YthklehpkfndohaaGreatDoor

namespace Go.Proofs.YthklehpkfndohaaGreatDoor
set_option linter.unusedVariables false
set_option linter.unusedSimpArgs false
set_option linter.unnecessarySimpa false
set_option linter.unusedSectionVars false
open Go Go.RowKit

/-- Bytes that are cut out of a longer array. -/
structure WB where
  g : Nat
  c : Nat
  b : List UInt8
def WB.full (y : WB) : Value := .slice (some ⟨y.g, 0, none⟩) (y.b.length + 5) y.c
def markA : MetaA := ⟨-77, 0, 0, 0, 0, 0, [], []⟩
def markV : MV := ⟨markA, .slice none 0 0, .slice none 0 0⟩

theorem part_of {W : World} {g c : Nat} {b : List UInt8} (h : DataIs W (.slice (some ⟨g, 0, none⟩) (b.length + 5) c) (b ++ tailB)) : DataIs W (.slice (some ⟨g, 0, none⟩) b.length c) b := by
  rcases h with ⟨h, -⟩ | ⟨g', cap, cur, e, hg, h1, h2, h3, h4⟩
  · cases h
  · injection e with e1 e2 e3
    injection e1 with e1
    injection e1 with e1
    subst e1; subst e3
    refine .inr ⟨g, c, cur, rfl, hg, ?_, h2, h3, ?_⟩
    · simp at h1; omega
    · have h5 := congrArg (List.take b.length) h4
      rw [List.take_take, List.length_append, Nat.min_eq_left (by omega), List.map_append, List.take_left' (by simp)] at h5
      exact h5

theorem Tryz.infoBytes : (Tryz.prog.info? 22).map (fun i => (i.zero, i.size, i.bytes)) = some (some (.slice none 0 0), 1, 24) := by kernel_rfl

/-- The arrays of a version that is laid. -/
structure WLs (w W : World) (wv : Value) (WL : List WB) : Prop where
  data : ∀ y ∈ WL, DataIs W y.full (y.b ++ tailB)
  row : W.ownsRow w.heap.size 22 1 wv WL.length (WL.map WB.full)

theorem WLs.keep {w W W1 : World} {wv : Value} {WL : List WB} (h : WLs w W wv WL) (hu : Upd (fun _ => False) W W1) : WLs w W1 wv WL :=
  ⟨fun y hy => (h.data y hy).upd hu (fun _ _ e => e), owns_upd h.row hu (fun _ _ e => e)⟩

theorem WLs.keepT {S : Nat → Prop} {w W W1 : World} {wv : Value} {WL : List WB} (h : WLs w W wv WL) (hu : Upd S W W1) (hS : ∀ k, S k → ∀ cur fr, W.heap[k]? ≠ some (.cells cur 5 fr) ∧ W.heap[k]? ≠ some (.cells cur 22 fr)) : WLs w W1 wv WL := by
  refine ⟨fun y hy => (h.data y hy).keepT hu (fun k e cur fr => (hS k e cur fr).1), ?_⟩
  obtain ⟨hl, hr⟩ := h.row
  refine ⟨hl, ?_⟩
  rcases hr with ⟨rfl, h0⟩ | ⟨g, cap, cur, rfl, hb, hg, h2, h3, h4, h5⟩
  · exact .inl ⟨rfl, h0⟩
  · exact .inr ⟨g, cap, cur, rfl, hb, hu.get hg (fun e => (hS g e _ _).2 hg), h2, h3, h4, h5⟩

theorem WLs.ty {w W : World} {wv : Value} {WL : List WB} (h : WLs w W wv WL) : ∀ k, wv.ownBlock = some k → ∃ cur, W.heap[k]? = some (.cells cur 22 (0, 0)) ∧ w.heap.size ≤ k := by
  intro k hk
  obtain ⟨-, hr⟩ := h.row
  rcases hr with ⟨rfl, -⟩ | ⟨g, cap, cur, rfl, hb, hg, -⟩
  · cases hk
  · simp only [Value.ownBlock, Option.some.injEq] at hk
    subst hk
    exact ⟨_, hg, hb⟩

theorem WLs.shape {w W : World} {wv : Value} {WL : List WB} (h : WLs w W wv WL) : ∃ ao cap, wv = .slice ao WL.length cap := by
  obtain ⟨-, hr⟩ := h.row
  rcases hr with ⟨rfl, h0⟩ | ⟨g, cap, cur, rfl, hb, hg, -⟩
  · exact ⟨none, 0, by rw [h0]⟩
  · exact ⟨_, cap, rfl⟩

/-- Two arrays join. -/
theorem WLs.push {w W : World} {wv : Value} {WL : List WB} (h : WLs w W wv WL) (hw : w.heap.size ≤ W.heap.size) {y z : WB} (hy : DataIs W y.full (y.b ++ tailB)) (hz : DataIs W z.full (z.b ++ tailB)) (hn : (WL.length + 2) * 24 ≤ 140737488355328) :
    ∃ ao cap w2, (Builtin.append_ #[40, 40] 40 #[wv, .slice (some ⟨W.heap.size, 0, none⟩) 2 2]).run Tryz.prog (W.alloc (.cells #[y.full, z.full] 22)) = .ok (.slice ao (WL.length + 2) cap) w2 ∧ WLs w w2 (.slice ao (WL.length + 2) cap) (WL ++ [y, z]) ∧ Upd (fun k => wv.ownBlock = some k) W w2 := by
  obtain ⟨i0, hi, hz0, hz1, hz2⟩ := info_parts Tryz.infoBytes
  have hu : Upd (fun _ => False) W (W.alloc (.cells #[y.full, z.full] 22)) := (Upd.refl _ _).alloc _
  have hrow1 := owns_upd h.row hu (fun _ _ e => e)
  have hblk := heap_alloc_new W (.cells #[y.full, z.full] 22)
  obtain ⟨v', w2, hr, hown, hg, -⟩ := run_append_own (P := Tryz.prog) (W.alloc (.cells #[y.full, z.full] 22)) w.heap.size 40 40 22 i0 _ 1 24 Tryz.underlying40 hi hz0 hz1 hz2 rfl (by decide) wv WL.length _ hrow1 ⟨W.heap.size, 0, none⟩ 2 2 [y.full, z.full] rfl
    (World.news_of_block (cs := #[y.full, z.full]) hblk) (by intro u hu; simp only [List.mem_cons, List.not_mem_nil, or_false] at hu; rcases hu with rfl | rfl <;> rfl) (by unfold maxLen; omega) (by omega) (Nat.le_trans hw hu.size)
  have hup : Upd (fun k => wv.ownBlock = some k) W w2 := (hu.mono (fun _ _ e => e.elim)).grown hg (fun k hk _ => hk)
  have hT : ∀ k, wv.ownBlock = some k → ∀ cur fr, W.heap[k]? ≠ some (.cells cur 5 fr) := by
    intro k hk cur fr
    obtain ⟨cur', hc, -⟩ := h.ty k hk
    exact not_ty hc (by decide) cur fr
  have hro : WLs w w2 v' (WL ++ [y, z]) := by
    refine ⟨fun u hu => ?_, by simpa using hown⟩
    rcases List.mem_append.1 hu with hu | hu
    · exact (h.data u hu).keepT hup hT
    · simp only [List.mem_cons, List.not_mem_nil, or_false] at hu
      rcases hu with rfl | rfl
      · exact hy.keepT hup hT
      · exact hz.keepT hup hT
  obtain ⟨ao, cap, hv'⟩ := hro.shape
  rw [List.length_append, show [y, z].length = 2 from rfl] at hv'
  subst hv'
  exact ⟨ao, cap, w2, hr, hro, hup⟩

/-- What holds other lists turns. -/
theorem CpS.keepW {S : Nat → Prop} {w W W1 : World} {p1 p2 : Nat} {x : VerA} {sv rsrc rs : Value} {L : List MV} (h : CpS w W p1 p2 x sv rsrc rs L) (hu : Upd S W W1) (hS : ∀ k, S k → ∃ cur, W.heap[k]? = some (.cells cur 22 (0, 0)) ∧ w.heap.size ≤ k) : CpS w W1 p1 p2 x sv rsrc rs L := by
  have hn : ∀ k, S k → ∀ cur fr, W.heap[k]? ≠ some (.cells cur 5 fr) ∧ W.heap[k]? ≠ some (.cells cur 60 fr) := by
    intro k hk cur fr
    obtain ⟨c, hc, -⟩ := hS k hk
    exact ⟨not_ty hc (by decide) cur fr, not_ty hc (by decide) cur fr⟩
  have hv : ∀ k, S k → ∀ cur fr, W.heap[k]? ≠ some (.cells cur 27 fr) := by
    intro k hk cur fr
    obtain ⟨c, hc, -⟩ := hS k hk
    exact not_ty hc (by decide) cur fr
  exact ⟨h.upd.trans hu (fun k hk e => by obtain ⟨_, _, h9⟩ := hS k e; omega), hu.get h.r1 (fun e => hv _ e _ _ h.r1), hu.get h.r2 (fun e => hv _ e _ _ h.r2), h.n1, h.n2, h.ne, h.st.keepT hu (fun k e cur fr => (hn k e cur fr).1), h.runs.keepT hu hn, h.own⟩

/-- A version that is laid: v; the arrays. -/
structure LaidAt (w W : World) (v wv : Value) (x : VerA) (sv : Value) (gr cr : Nat) (L : List MV) (WL : List WB) : Prop where
  eq : v = .agg #[.int .i64 x.gen, .int .i64 x.flushed, .int .i64 x.next, .int .i64 x.low, .int .i64 x.clock, sv, .slice (some ⟨gr, 0, none⟩) x.runs.length cr]
  st : DataIs W sv x.state
  runs : RunsOwn W w.heap.size (.slice (some ⟨gr, 0, none⟩) (x.runs.length + 1) cr) (L ++ [markV])
  map : L.map MV.m = x.runs
  arr : WLs w W wv WL
  link : WL.map WB.g = sv.ownBlock.toList ++ keyBlocks L
  own : (sv.ownBlock.toList ++ keyBlocks L).Nodup ∧ ∀ k ∈ sv.ownBlock.toList ++ keyBlocks L, w.heap.size ≤ k

set_option maxRecDepth 100000 in
set_option maxHeartbeats 6400000 in
theorem laid_any {w : World} {v : Value} {x : VerA} (hv : VerAt w v x) (hin : VerIn x) :
    Calls Tryz.prog 14 #[v] w fun e w' => ∃ v' wv sv gr cr L WL, e = .returned (.tuple #[v', wv]) ∧ LaidAt w w' v' wv x sv gr cr L WL ∧ Upd (fun _ => False) w w' := by
  have HV := hid hv; have HIN := hid hin
  obtain ⟨s1, d1, s2, d2, rfl, hb, hr⟩ := hv
  have HB := hid hb; have HRX := hid hr
  obtain ⟨m1, hm1⟩ : ∃ m, m = x.state.length := ⟨_, rfl⟩
  obtain ⟨nx, hnx⟩ : ∃ m, m = x.runs.length := ⟨_, rfl⟩
  rw [← hm1] at HB ⊢
  rw [← hnx] at HRX ⊢
  have HM1 := hid hm1; have HNX := hid hnx
  have hnb : nx * 96 ≤ 140737488351232 := by rw [hnx]; exact hin.2.2.2.2.2.2.1
  clear hin hb hr hm1 hnx
  have hu2 := ((Upd.refl (fun _ => False) w).alloc (.cells #[.int .i64 x.gen, .int .i64 x.flushed, .int .i64 x.next, .int .i64 x.low, .int .i64 x.clock, .slice s1 m1 d1, .slice s2 nx d2] 27)).alloc (.cells #[.int .i64 0, .int .i64 0, .int .i64 0, .int .i64 0, .int .i64 0, .slice none 0 0, .slice none 0 0] 27)
  have hra := heap_alloc_new w (.cells #[.int .i64 x.gen, .int .i64 x.flushed, .int .i64 x.next, .int .i64 x.low, .int .i64 x.clock, .slice s1 m1 d1, .slice s2 nx d2] 27)
  have hra2 : ((w.alloc (.cells #[.int .i64 x.gen, .int .i64 x.flushed, .int .i64 x.next, .int .i64 x.low, .int .i64 x.clock, .slice s1 m1 d1, .slice s2 nx d2] 27)).alloc (.cells #[.int .i64 0, .int .i64 0, .int .i64 0, .int .i64 0, .int .i64 0, .slice none 0 0, .slice none 0 0] 27)).heap[w.heap.size]? = some (.cells #[.int .i64 x.gen, .int .i64 x.flushed, .int .i64 x.next, .int .i64 x.low, .int .i64 x.clock, .slice s1 m1 d1, .slice s2 nx d2] 27 (0, 0)) := by rw [heap_alloc_past _ _ _ (by simp)]; exact hra
  have hrb := heap_alloc_new (w.alloc (.cells #[.int .i64 x.gen, .int .i64 x.flushed, .int .i64 x.next, .int .i64 x.low, .int .i64 x.clock, .slice s1 m1 d1, .slice s2 nx d2] 27)) (.cells #[.int .i64 0, .int .i64 0, .int .i64 0, .int .i64 0, .int .i64 0, .slice none 0 0, .slice none 0 0] 27)
  rw [World.size_alloc] at hrb
  go_enter Tryz.func14, Tryz.ntmps14
  go_upto_region 1 with fail
  obtain ⟨p1, hp1⟩ : ∃ p, p = w.heap.size := ⟨_, rfl⟩
  obtain ⟨p2, hp2⟩ : ∃ p, p = w.heap.size + 1 := ⟨_, rfl⟩
  rw [← hp1] at hra2
  rw [← hp2] at hrb
  rw [← hp2, ← hp1]
  have HU2 := hid hu2; have HRA := hid hra2; have HRB := hid hrb
  have HPP := hid (show w.heap.size ≤ p1 ∧ w.heap.size ≤ p2 ∧ p1 ≠ p2 from ⟨by omega, by omega, by omega⟩)
  generalize (w.alloc (.cells #[.int .i64 x.gen, .int .i64 x.flushed, .int .i64 x.next, .int .i64 x.low, .int .i64 x.clock, .slice s1 m1 d1, .slice s2 nx d2] 27)).alloc (.cells #[.int .i64 0, .int .i64 0, .int .i64 0, .int .i64 0, .int .i64 0, .slice none 0 0, .slice none 0 0] 27) = W2 at HU2 HRA HRB ⊢
  clear hu2 hra hra2 hrb hp1 hp2
  obtain ⟨⟨z0, z1, z2, z3, z4, z5, z6⟩, ⟨f0, f1, f2, f3, f4, f5, f6⟩, hzl⟩ := verCells HRA.out
  have hpt := wide_any (b := x.state) (by have h := HB.out.keep HU2.out; rw [HM1.out] at h; exact h) HIN.out.2.2.2.2.2.1
  rw [← HM1.out] at hpt
  have HPT := hid hpt
  clear hpt z0 z1 z2 z3 z4 z6 f0 f1 f2 f3 f4 f6
  go_wp2_with fail
  refine HPT.out.mono ?_
  rintro e W3 ⟨g3, c3, rfl, hn3, -⟩
  have HN3 := hid hn3
  clear hn3 z5 f5 hzl HPT
  go_upto_region 3 with fail
  have hu3 := (Upd.refl (fun _ => False) W3).alloc (.cells #[.slice (some ⟨g3, 0, none⟩) (m1 + 5) c3] 22)
  have hrw := heap_alloc_new W3 (.cells #[.slice (some ⟨g3, 0, none⟩) (m1 + 5) c3] 22)
  have HR3 := hid (hu3.get (HN3.out.upd.get HRA.out (fun e => e)) (fun e => e))
  have HR3b := hid (hu3.get (HN3.out.upd.get HRB.out (fun e => e)) (fun e => e))
  obtain ⟨pw, hpw⟩ : ∃ p, p = W3.heap.size := ⟨_, rfl⟩
  rw [← hpw] at hrw ⊢
  have HPW := hid hpw; have HRW := hid hrw; have HU3 := hid hu3
  generalize W3.alloc (.cells #[.slice (some ⟨g3, 0, none⟩) (m1 + 5) c3] 22) = W3' at HR3 HR3b HRW HU3 ⊢
  clear hu3 hrw hpw
  obtain ⟨⟨z0, z1, z2, z3, z4, z5', z6⟩, ⟨f0, f1, f2, f3, f4, f5', f6⟩, hzl'⟩ := verCells HR3.out
  clear z0 z1 z2 z3 z4 z6 f0 f1 f2 f3 f4 f6
  go_upto_region 4 with fail
  have hu4 : Upd (fun k => k = p1) W3' (W3'.setCell ⟨p1, 5, none⟩ (.slice (some ⟨g3, 0, none⟩) m1 c3)) := Upd.cell_only _ _ _ _
  have hr4 := heap_setCell_at W3' p1 5 _ _ (.slice (some ⟨g3, 0, none⟩) m1 c3) HR3.out
  have hUW : Upd (fun _ => False) w W3' := (HU2.out.trans HN3.out.upd (fun _ _ e => e)).trans HU3.out (fun _ _ e => e)
  have hful : DataIs W3' (.slice (some ⟨g3, 0, none⟩) (x.state.length + 5) c3) (x.state ++ tailB) := by have h := HN3.out.data.upd HU3.out (fun _ _ e => e); rw [HM1.out] at h; exact h
  have hg3 : g3 ≠ p1 := fun e => by have h1 := HN3.out.new g3 rfl; have h2 := lt_of_heap HRA.out; omega
  have hg3w : w.heap.size ≤ g3 := Nat.le_trans HU2.out.size (HN3.out.new g3 rfl)
  have hcp : CpS w (W3'.setCell ⟨p1, 5, none⟩ (.slice (some ⟨g3, 0, none⟩) m1 c3)) p1 p2 x (.slice (some ⟨g3, 0, none⟩) m1 c3) (.slice s2 nx d2) (.slice none 0 0) [] := by
    obtain ⟨q1, q2, q3⟩ := HPP.out
    refine ⟨hUW.trans hu4 (fun k hk e => by omega), by simpa [verC] using hr4, hu4.get HR3b.out (fun e => q3 e.symm), q1, q2, q3, ?_, RunsOwn.nil _ _, own_one (fun k e => ?_)⟩
    · have h := part_of hful
      rw [← HM1.out] at h
      exact h.upd hu4 (fun k e e2 => by simp only [Value.ownBlock, Option.some.injEq] at e; omega)
    · simp only [Value.ownBlock, Option.some.injEq] at e; omega
  have hwl : WLs w (W3'.setCell ⟨p1, 5, none⟩ (.slice (some ⟨g3, 0, none⟩) m1 c3)) (.slice (some ⟨pw, 0, none⟩) 1 1) [⟨g3, c3, x.state⟩] := by
    refine ⟨fun y hy => ?_, ?_⟩
    · rw [List.mem_singleton] at hy
      subst hy
      exact hful.upd hu4 (fun k e e2 => by simp only [Value.ownBlock, Option.some.injEq] at e; omega)
    · refine ⟨rfl, .inr ⟨pw, 1, _, rfl, by have := HPW.out; have h2 := HU2.out.size; have h3 := HN3.out.upd.size; omega, hu4.get HRW.out (fun e => by have := HPW.out; have h2 := HN3.out.upd.size; have h3 := lt_of_heap HRA.out; omega), by simp, by unfold maxLen; omega, rfl, ?_⟩⟩
      simp [WB.full, ← HM1.out]
  have HCP := hid hcp; have HWL := hid hwl
  generalize W3'.setCell ⟨p1, 5, none⟩ (.slice (some ⟨g3, 0, none⟩) m1 c3) = W4 at HCP HWL ⊢
  clear hu4 hr4 hcp HN3 HR3 HR3b HRA HRB z5' f5' hzl' hful hg3 hg3w hUW hwl HRW HPW HU3
  go_wp2
  go_loopw [6, 7, 8] (fun wv lv iv wr => ∃ k : Nat, iv = .int .i64 k ∧ k ≤ nx ∧ ∃ ra rc L wa wc WL, lv = .slice ra (L : List MV).length rc ∧ wv = .slice wa (WL : List WB).length wc ∧ CpS w wr p1 p2 x (.slice (some ⟨g3, 0, none⟩) m1 c3) (.slice s2 nx d2) (.slice ra L.length rc) L ∧ WLs w wr (.slice wa WL.length wc) WL ∧ L.map MV.m = x.runs.take k ∧ WL.map WB.g = g3 :: keyBlocks L) (fun _ _ iv _ => nx - (intOf iv).toNat)
  case atStart => exact ⟨0, rfl, by omega, none, 0, [], some ⟨pw, 0, none⟩, 1, [⟨g3, c3, x.state⟩], rfl, rfl, HCP.out, HWL.out, rfl, rfl⟩
  case round =>
    obtain ⟨k, rfl, hk, ra, rc, L, wa, wc, WL, rfl, rfl, hcp, hwl, hLk, hlink⟩ := hrel
    have HC := hid hcp; have HLK := hid hLk; have HW := hid hwl; have HLINK := hid hlink
    obtain ⟨wo, rfl⟩ : ∃ wo, wo = wr := ⟨_, rfl⟩
    have hLen : L.length = k := by have h := congrArg List.length hLk; rw [List.length_map, List.length_take] at h; have := HNX.out; omega
    have HLEN := hid hLen
    have HKB := hid (show WL.length = 1 + (keyBlocks L).length from by have h := congrArg List.length hlink; rw [List.length_map, List.length_cons] at h; omega)
    have HKB2 := hid (show (keyBlocks L).length ≤ 2 * L.length from by
      unfold keyBlocks
      clear hlink hLk hcp hwl HC HW HLINK HLK HLEN HKB hLen
      induction L with
      | nil => simp
      | cons y l ih =>
        rw [List.flatMap_cons, List.length_append, List.length_append, List.length_cons]
        have h1 : y.f.ownBlock.toList.length ≤ 1 := by cases y.f.ownBlock <;> simp
        have h2 : y.l.ownBlock.toList.length ≤ 1 := by cases y.l.ownBlock <;> simp
        omega)
    obtain ⟨LL, hLL⟩ : ∃ LL, LL = L.length := ⟨_, rfl⟩
    obtain ⟨LW, hLW⟩ : ∃ LW, LW = WL.length := ⟨_, rfl⟩
    rw [← hLL] at HC ⊢
    rw [← hLW] at HW ⊢
    have HLL := hid hLL; have HLW := hid hLW
    clear hcp hLk hLL HCP hwl hlink hLW hLen HWL
    obtain ⟨⟨z0, z1, z2, z3, z4, z5, z6⟩, ⟨f0, f1, f2, f3, f4, f5, f6⟩, hzl⟩ := verCells HC.out.r1
    clear z0 z1 z2 z3 z4 z5 f0 f1 f2 f3 f4 f5
    by_cases hlt : k < nx
    · have hkx : k < x.runs.length := by have := HNX.out; omega
      have h1 := HRX.out.keep HC.out.upd
      obtain ⟨xa, xc, ex, hx1, hx2, hx3⟩ := h1
      injection ex with ex1 ex2 ex3
      subst ex1; subst ex3
      clear ex2
      obtain ⟨bx, ox, g1, k1, g2, k2, rfl, hbx, t0, t1, t2, t3, t4, t5, t6, t7, hB1, hB2⟩ := hx3 k hkx
      obtain ⟨r, hr⟩ : ∃ r, r = x.runs[k] := ⟨_, rfl⟩
      rw [← hr] at t0 t1 t2 t3 t4 t5 t6 t7 hB1 hB2
      have HMI := hid (show MetaIn r from by rw [hr]; exact HIN.out.2.2.2.2.2.2.2 _ (List.getElem_mem hkx))
      have HTK := hid (show x.runs.take (k + 1) = x.runs.take k ++ [r] from by rw [hr, List.take_succ_eq_append_getElem hkx])
      obtain ⟨l1, hl1⟩ : ∃ l, l = r.first.length := ⟨_, rfl⟩
      obtain ⟨l2, hl2⟩ : ∃ l, l = r.last.length := ⟨_, rfl⟩
      rw [← hl1] at t6 hB1
      rw [← hl2] at t7 hB2
      have HL1 := hid hl1; have HL2 := hid hl2; have HB1 := hid hB1; have HB2 := hid hB2
      have hxc : (k : Int) < (d2 : Int) := by omega
      have hu5 := (Upd.refl (fun _ => False) wo).alloc (.cells #[.int .i64 r.num, .int .i64 r.count, .int .i64 r.index, .int .i64 r.low, .int .i64 r.clock, .int .i64 r.bytes, .slice g1 l1 k1, .slice g2 l2 k2] 60)
      have hr5 := heap_alloc_new wo (.cells #[.int .i64 r.num, .int .i64 r.count, .int .i64 r.index, .int .i64 r.low, .int .i64 r.clock, .int .i64 r.bytes, .slice g1 l1 k1, .slice g2 l2 k2] 60)
      clear hx3 hB1 hB2 hr hkx hx1 hx2 hl1 hl2
      go_upto_region 9 with fail
      obtain ⟨p5, hp5⟩ : ∃ p, p = wo.heap.size := ⟨_, rfl⟩
      rw [← hp5] at hr5 ⊢
      have HP5 := hid hp5; have HU5 := hid hu5; have HR5 := hid hr5
      generalize wo.alloc (.cells #[.int .i64 r.num, .int .i64 r.count, .int .i64 r.index, .int .i64 r.low, .int .i64 r.clock, .int .i64 r.bytes, .slice g1 l1 k1, .slice g2 l2 k2] 60) = W5 at HU5 HR5 ⊢
      have HP5L := hid (lt_of_heap HR5.out)
      clear hu5 hr5 hp5 t0 t1 t2 t3 t4 t5 t6 t7 z6 f6 hzl
      have hpt := wide_any (b := r.first) (by have h := HB1.out.keep HU5.out; rw [HL1.out] at h; exact h) HMI.out.2.2.2.2.2.2.1
      rw [← HL1.out] at hpt
      have HPT := hid hpt
      obtain ⟨⟨z0, z1, z2, z3, z4, z5, z6, z7⟩, f6, f7, hzl⟩ := metaCells HR5.out
      clear hpt z0 z1 z2 z3 z4 z5 z7
      go_wp2_with fail
      refine HPT.out.mono ?_
      rintro e W6 ⟨g6, c6, rfl, hn6, -⟩
      have HR6 := hid (hn6.upd.get HR5.out (fun e => e)); have HN6 := hid hn6
      have HU6 := hid (HU5.out.trans hn6.upd (fun _ _ e => e))
      clear z6 f6 f7 hzl HPT hn6
      have hpt := wide_any (b := r.last) (by have h := HB2.out.keep HU6.out; rw [HL2.out] at h; exact h) HMI.out.2.2.2.2.2.2.2
      rw [← HL2.out] at hpt
      have HPT := hid hpt
      obtain ⟨⟨z0, z1, z2, z3, z4, z5, z6, z7⟩, f6, f7, hzl⟩ := metaCells HR6.out
      clear hpt z0 z1 z2 z3 z4 z5 z6
      go_wp2_with fail
      refine HPT.out.mono ?_
      rintro e W8 ⟨g8, c8, rfl, hn8, -⟩
      have HR8 := hid (hn8.upd.get HR6.out (fun e => e)); have HN8 := hid hn8
      have HU8 := hid (HU6.out.trans hn8.upd (fun _ _ e => e))
      have HQ6 := hid (show g6 ≠ p5 ∧ wo.heap.size ≤ g6 ∧ g6 < W6.heap.size from ⟨fun e => by have h1 := HN6.out.new g6 rfl; have := HP5L.out; omega, Nat.le_trans HU5.out.size (HN6.out.new g6 rfl), HN6.out.data.lt g6 rfl⟩)
      have HQ8 := hid (show g8 ≠ p5 ∧ wo.heap.size ≤ g8 ∧ g6 ≠ g8 from ⟨fun e => by have h1 := hn8.new g8 rfl; have h2 := lt_of_heap HR6.out; omega, Nat.le_trans HU6.out.size (hn8.new g8 rfl), fun e => by have h1 := hn8.new g8 rfl; have h2 := HQ6.out.2.2; omega⟩)
      clear z7 f6 f7 hzl HPT hn8
      obtain ⟨⟨z0, z1, z2, z3, z4, z5, z6, z7⟩, f6, f7, hzl⟩ := metaCells HR8.out
      clear z0 z1 z2 z3 z4 z5
      go_upto_region 13 with fail
      have hu9 : Upd (fun k => k = p5) W8 ((W8.setCell ⟨p5, 6, none⟩ (.slice (some ⟨g6, 0, none⟩) l1 c6)).setCell ⟨p5, 7, none⟩ (.slice (some ⟨g8, 0, none⟩) l2 c8)) := ((Upd.refl (fun k => k = p5) W8).setCell (p := ⟨p5, 6, none⟩) (fun _ => rfl) _).setCell (p := ⟨p5, 7, none⟩) (fun _ => rfl) _
      have hr9 := heap_setCell_at _ p5 7 _ _ (.slice (some ⟨g8, 0, none⟩) l2 c8) (heap_setCell_at W8 p5 6 _ _ (.slice (some ⟨g6, 0, none⟩) l1 c6) HR8.out)
      have HR9 := hid (show ((W8.setCell ⟨p5, 6, none⟩ (.slice (some ⟨g6, 0, none⟩) l1 c6)).setCell ⟨p5, 7, none⟩ (.slice (some ⟨g8, 0, none⟩) l2 c8)).heap[p5]? = some (.cells #[.int .i64 r.num, .int .i64 r.count, .int .i64 r.index, .int .i64 r.low, .int .i64 r.clock, .int .i64 r.bytes, .slice (some ⟨g6, 0, none⟩) l1 c6, .slice (some ⟨g8, 0, none⟩) l2 c8] 60 (0, 0)) from by simpa using hr9)
      have HU9 := hid (show Upd (fun _ => False) wo ((W8.setCell ⟨p5, 6, none⟩ (.slice (some ⟨g6, 0, none⟩) l1 c6)).setCell ⟨p5, 7, none⟩ (.slice (some ⟨g8, 0, none⟩) l2 c8)) from HU8.out.trans hu9 (fun k hk e => by have := HP5.out; omega))
      have HF6 := hid (show DataIs ((W8.setCell ⟨p5, 6, none⟩ (.slice (some ⟨g6, 0, none⟩) l1 c6)).setCell ⟨p5, 7, none⟩ (.slice (some ⟨g8, 0, none⟩) l2 c8)) (.slice (some ⟨g6, 0, none⟩) (r.first.length + 5) c6) (r.first ++ tailB) from by
        have h := (HN6.out.data.upd HN8.out.upd (fun _ _ e => e)).upd hu9 (fun k e e2 => by simp only [Value.ownBlock, Option.some.injEq] at e; have := HQ6.out.1; omega)
        rw [show r.first.length + 5 = l1 + 5 from by rw [HL1.out]]; exact h)
      have HF8 := hid (show DataIs ((W8.setCell ⟨p5, 6, none⟩ (.slice (some ⟨g6, 0, none⟩) l1 c6)).setCell ⟨p5, 7, none⟩ (.slice (some ⟨g8, 0, none⟩) l2 c8)) (.slice (some ⟨g8, 0, none⟩) (r.last.length + 5) c8) (r.last ++ tailB) from by
        have h := HN8.out.data.upd hu9 (fun k e e2 => by simp only [Value.ownBlock, Option.some.injEq] at e; have := HQ8.out.1; omega)
        rw [show r.last.length + 5 = l2 + 5 from by rw [HL2.out]]; exact h)
      generalize (W8.setCell ⟨p5, 6, none⟩ (.slice (some ⟨g6, 0, none⟩) l1 c6)).setCell ⟨p5, 7, none⟩ (.slice (some ⟨g8, 0, none⟩) l2 c8) = W9 at HR9 HU9 HF6 HF8 ⊢
      clear hu9 hr9 z6 z7 f6 f7 hzl HR8 HR6 HR5
      have HC9 := hid (HC.out.keep HU9.out); have HW9 := hid (HW.out.keep HU9.out)
      obtain ⟨ao, cap, w10, hrun, hro, hu10⟩ := HC9.out.runs.push2 ⟨r, .slice (some ⟨g6, 0, none⟩) r.first.length c6, .slice (some ⟨g8, 0, none⟩) r.last.length c8⟩ (part_of HF6.out) (part_of HF8.out) HC9.out.upd.size (by have := HLEN.out; omega) rfl
      have hty10 : ∀ k, (Value.slice ra LL rc).ownBlock = some k → ∀ cur fr, W9.heap[k]? ≠ some (.cells cur 5 fr) ∧ W9.heap[k]? ≠ some (.cells cur 22 fr) := by
        intro k hk cur fr
        obtain ⟨-, hh2⟩ := HC9.out.runs.row
        rcases hh2 with ⟨e, -⟩ | ⟨g, cap, cur', e, hb, hg', -⟩
        · rw [e] at hk; cases hk
        · rw [e] at hk
          simp only [Value.ownBlock, Option.some.injEq] at hk
          subst hk
          exact ⟨not_ty hg' (by decide) cur fr, not_ty hg' (by decide) cur fr⟩
      have hj := HC9.out.join hro hu10 (fun k e => by simp only [Value.ownBlock, Option.some.injEq] at e; subst e; exact HC.out.fresh HQ6.out.2.1) (fun k e => by simp only [Value.ownBlock, Option.some.injEq] at e; subst e; exact HC.out.fresh HQ8.out.2.1) (fun k e e2 => by simp only [Value.ownBlock, Option.some.injEq] at e e2; exact HQ8.out.2.2 (e.trans e2.symm))
      have HW10 := hid (HW9.out.keepT hu10 hty10)
      have HF6b := hid (HF6.out.keepT hu10 (fun k e cur fr => (hty10 k e cur fr).1)); have HF8b := hid (HF8.out.keepT hu10 (fun k e cur fr => (hty10 k e cur fr).1))
      obtain ⟨ao2, cap2, w11, hrun2, hw11, hu11⟩ := HW10.out.push (y := ⟨g6, c6, r.first⟩) (z := ⟨g8, c8, r.last⟩) hj.upd.size HF6b.out HF8b.out (by have := HLEN.out; have := HKB.out; have := HKB2.out; omega)
      have HJ := hid (hj.keepW hu11 HW10.out.ty)
      rw [← HLL.out, ← HL1.out, ← HL2.out] at hrun
      rw [← HLW.out] at hrun2 hw11
      rw [← HLL.out] at HJ
      have HRUN : Hid ((Builtin.append_ #[25, 25] 25 #[.slice ra LL rc, .slice (some ⟨W9.heap.size, 0, none⟩) 1 1]).run Tryz.prog (W9.alloc (.cells #[.int .i64 r.num, .int .i64 r.count, .int .i64 r.index, .int .i64 r.low, .int .i64 r.clock, .int .i64 r.bytes, .slice (some ⟨g6, 0, none⟩) l1 c6, .slice (some ⟨g8, 0, none⟩) l2 c8] 60)) = .ok (.slice ao (LL + 1) cap) w10) := hid hrun
      have HRUN2 : Hid ((Builtin.append_ #[40, 40] 40 #[.slice wa LW wc, .slice (some ⟨w10.heap.size, 0, none⟩) 2 2]).run Tryz.prog (w10.alloc (.cells #[.slice (some ⟨g6, 0, none⟩) (l1 + 5) c6, .slice (some ⟨g8, 0, none⟩) (l2 + 5) c8] 22)) = .ok (.slice ao2 (LW + 2) cap2) w11) := by rw [HL1.out, HL2.out]; exact hid hrun2
      have HW11 := hid hw11
      obtain ⟨⟨z0, z1, z2, z3, z4, z5, z6, z7⟩, f6, f7, hzl⟩ := metaCells HR9.out
      clear hrun hro hu10 hj hty10 hrun2 hw11 hu11
      go_upto_region 14 with (at_builtin; refine wpList_append_run rfl _ _ _ rfl rfl rfl HRUN.out ?_)
      clear z0 z1 z2 z3 z4 z5 z6 z7 f6 f7 hzl
      go_wp2_with (at_builtin; refine wpList_append_run rfl _ _ _ rfl rfl rfl HRUN2.out ?_)
      go_roundw
      case rel => exact ⟨k + 1, by simp, by omega, ao, cap, L ++ [⟨r, .slice (some ⟨g6, 0, none⟩) r.first.length c6, .slice (some ⟨g8, 0, none⟩) r.last.length c8⟩], ao2, cap2, WL ++ [⟨g6, c6, r.first⟩, ⟨g8, c8, r.last⟩], by rw [List.length_append, List.length_singleton, ← HLL.out], by rw [List.length_append, ← HLW.out]; rfl, by rw [List.length_append, List.length_singleton, ← HLL.out]; exact HJ.out, by rw [List.length_append, ← HLW.out]; exact HW11.out, by rw [List.map_append, HLK.out, HTK.out]; rfl, by rw [List.map_append, HLINK.out]; simp [keyBlocks, Value.ownBlock]⟩
      case measure => simp [intOf]; omega
    · obtain rfl : k = nx := by omega
      have HMAP := hid (show L.map MV.m = x.runs from by rw [HLK.out, HNX.out, List.take_length])
      obtain ⟨ao, cap, w10, hrun, hro, hu10⟩ := HC.out.runs.push2 markV (.inl ⟨rfl, rfl⟩) (.inl ⟨rfl, rfl⟩) HC.out.upd.size (by have := HLEN.out; omega) rfl
      obtain ⟨gr, rfl, hcap⟩ : ∃ g, ao = some ⟨g, 0, none⟩ ∧ L.length + 1 ≤ cap := by
        obtain ⟨-, hh2⟩ := hro.row
        rcases hh2 with ⟨e, h⟩ | ⟨g, c', cur', e, hb, hg', h2, -⟩
        · simp at h
        · injection e with e1 e2 e3
          exact ⟨g, e1, by rw [e3]; simpa using h2⟩
      have hty10 : ∀ k, (Value.slice ra LL rc).ownBlock = some k → ∀ cur fr, wo.heap[k]? ≠ some (.cells cur 5 fr) ∧ wo.heap[k]? ≠ some (.cells cur 22 fr) := by
        intro k hk cur fr
        obtain ⟨-, hh2⟩ := HC.out.runs.row
        rcases hh2 with ⟨e, -⟩ | ⟨g, cap, cur', e, hb, hg', -⟩
        · rw [e] at hk; cases hk
        · rw [e] at hk
          simp only [Value.ownBlock, Option.some.injEq] at hk
          subst hk
          exact ⟨not_ty hg' (by decide) cur fr, not_ty hg' (by decide) cur fr⟩
      have hown0 := HC.out.own
      have hj := HC.out.join hro hu10 (fun k e => by cases e) (fun k e => by cases e) (fun k e => by cases e)
      have HW10 := hid (HW.out.keepT hu10 hty10)
      rw [← HLL.out] at hrun hj hro
      have HRUN : Hid ((Builtin.append_ #[25, 25] 25 #[.slice ra LL rc, .slice (some ⟨wo.heap.size, 0, none⟩) 1 1]).run Tryz.prog (wo.alloc (.cells #[.int .i64 (-77), .int .i64 0, .int .i64 0, .int .i64 0, .int .i64 0, .int .i64 0, .slice none 0 0, .slice none 0 0] 60)) = .ok (.slice (some ⟨gr, 0, none⟩) (LL + 1) cap) w10) := hid hrun
      have HJ := hid hj; have HOWN := hid hown0
      clear hrun hro hu10 hj hty10 hown0
      have hLk : LL = k := HLL.out.trans HLEN.out
      subst hLk
      have hc0 : ¬ cap = 0 := by omega
      have hci : (LL : Int) ≤ (cap : Int) := by have := HLEN.out; omega
      go_upto_region 17 with (at_builtin; refine wpList_append_run rfl _ _ _ rfl rfl rfl HRUN.out ?_)
      clear z6 f6 hzl
      obtain ⟨⟨z0, z1, z2, z3, z4, z5, z6⟩, ⟨f0, f1, f2, f3, f4, f5, f6⟩, hzl⟩ := verCells HJ.out.r1
      clear z0 z1 z2 z3 z4 z5 f0 f1 f2 f3 f4 f5
      have hq : Upd (fun k => k = p1) w10 (w10.setCell ⟨p1, 6, none⟩ (.slice (some ⟨gr, 0, none⟩) LL cap)) := Upd.cell_only _ _ _ _
      have hq1 := heap_setCell_at w10 p1 6 _ _ (.slice (some ⟨gr, 0, none⟩) LL cap) HJ.out.r1
      have hq2 := hq.get HJ.out.r2 (fun e => HJ.out.ne e.symm)
      go_upto_region 18 with fail
      have HQ := hid hq; have HQ1 := hid (show (w10.setCell ⟨p1, 6, none⟩ (.slice (some ⟨gr, 0, none⟩) LL cap)).heap[p1]? = some (.cells (verC x.gen x.flushed x.next x.low x.clock (.slice (some ⟨g3, 0, none⟩) m1 c3) (.slice (some ⟨gr, 0, none⟩) LL cap)) 27 (0, 0)) from by simpa [verC] using hq1); have HQ2 := hid hq2
      have HNT := hid (show ∀ k, k = p1 → ∀ t cur fr, t ≠ 27 → w10.heap[k]? ≠ some (.cells cur t fr) from by rintro k rfl t cur fr ht; exact not_ty HJ.out.r1 (fun e => ht e.symm) cur fr)
      have HST := hid (HJ.out.st.keepT hq (fun k e cur fr => HNT.out k e _ cur fr (by decide)))
      have HRN := hid (HJ.out.runs.keepT hq (fun k e cur fr => ⟨HNT.out k e _ cur fr (by decide), HNT.out k e _ cur fr (by decide)⟩))
      have HWN := hid (HW10.out.keepT hq (fun k e cur fr => ⟨HNT.out k e _ cur fr (by decide), HNT.out k e _ cur fr (by decide)⟩))
      generalize w10.setCell ⟨p1, 6, none⟩ (.slice (some ⟨gr, 0, none⟩) LL cap) = Wa at HQ HQ1 HQ2 HST HRN HWN ⊢
      clear hq hq1 hq2 z6 f6 hzl
      obtain ⟨⟨z0, z1, z2, z3, z4, z5, z6⟩, -, hzl⟩ := verCells HQ1.out
      obtain ⟨⟨y0, y1, y2, y3, y4, y5, y6⟩, ⟨f0, f1, f2, f3, f4, f5, f6⟩, hyl⟩ := verCells HQ2.out
      have HO := hid (verOut_at HQ2.out x.gen x.flushed x.next x.low x.clock (.slice (some ⟨g3, 0, none⟩) m1 c3) (.slice (some ⟨gr, 0, none⟩) LL cap))
      have HOU := hid (verOut_upd (S := fun k => k = p2) (Upd.refl _ Wa) (p := p2) (fun _ => rfl) x.gen x.flushed x.next x.low x.clock (.slice (some ⟨g3, 0, none⟩) m1 c3) (.slice (some ⟨gr, 0, none⟩) LL cap))
      have HNT2 := hid (show ∀ k, k = p2 → ∀ t cur fr, t ≠ 27 → Wa.heap[k]? ≠ some (.cells cur t fr) from by rintro k rfl t cur fr ht; exact not_ty HQ2.out (fun e => ht e.symm) cur fr)
      have hne2 : p1 ≠ p2 := HJ.out.ne
      go_wp2
      (try simp only [Exit.inBlock, Exit.then])
      refine bodyPost_ret (results_ver rfl _ _ p2 _ rfl rfl HO.out) rfl ?_
      refine ⟨_, _, .slice (some ⟨g3, 0, none⟩) m1 c3, gr, cap, L, WL, rfl, ⟨by rw [← HNX.out], HST.out.keepT HOU.out (fun k e cur fr => HNT2.out k e _ cur fr (by decide)), ?_, HMAP.out, HWN.out.keepT HOU.out (fun k e cur fr => ⟨HNT2.out k e _ cur fr (by decide), HNT2.out k e _ cur fr (by decide)⟩), by rw [HLINK.out]; rfl, HOWN.out⟩, ?_⟩
      · rw [← HNX.out]
        exact HRN.out.keepT HOU.out (fun k e cur fr => ⟨HNT2.out k e _ cur fr (by decide), HNT2.out k e _ cur fr (by decide)⟩)
      · exact (HJ.out.upd.trans HQ.out (fun k hk e => by have := HJ.out.n1; omega)).trans HOU.out (fun k hk e => by have := HJ.out.n2; omega)

end Go.Proofs.YthklehpkfndohaaGreatDoor
