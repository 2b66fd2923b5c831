/-
  plays, walked: its ways to acts, tells and makes.
-/
import Derived.Test.YtohpgmeflmppaaaGreatGQ
import Derived.StillTailTactics
namespace Go.Proofs.YtohpgmeflmppaaaGreat
set_option linter.unusedVariables false
set_option linter.unusedSimpArgs false
set_option linter.unnecessarySimpa false
set_option linter.unusedSectionVars false
open Go Go.RowKit

theorem Acted.made {w0 w : World} {S : WS} {e : Ending} {w' : World} (h : Acted w0 w S e w') : ActedM w0 w S 268435456 e w' := by
  obtain ⟨h1, S', h2, h3, h4, h5, h6⟩ := h
  exact ⟨h1, S', h2, h3, by omega, by rw [h5]; omega, h6⟩

theorem ActedB.made {w0 w : World} {S : WS} {e : Ending} {w' : World} (h : ActedB w0 w S 268435456 e w') : ActedM w0 w S 268435456 e w' := by
  obtain ⟨h1, S', h2, h3, h4, h5, h6⟩ := h
  exact ⟨h1, S', h2, h3, by omega, h5, h6⟩

/-- Which disk a number means. -/
theorem whose (n : Int) (L : Nat) (hL : 0 < L) : ∃ x : Int, n.tmod (L : Int) = x ∧ -(L : Int) < x ∧ x < (L : Int) := by
  refine ⟨_, rfl, ?_, Int.tmod_lt_of_pos n (by omega)⟩
  have := Int.lt_tmod_of_pos n (show (0 : Int) < L by omega)
  omega

/-- The cells that plays reads, in any world behind the box. -/
structure PlaysCells (w0 w : World) (S : WS) (fb : Nat) (cs : Array Value) (gd gr : Option Addr) (dc rc : Nat) (W : World) : Prop where
  c0 : W.cell? ⟨S.p, 0, none⟩ = some (.slice gd S.ds.length dc)
  c1 : W.cell? ⟨S.p, 1, none⟩ = some (.slice gr S.rs.length rc)
  row0 : ∀ j (hj : j < S.ds.length), ∃ g, gd = some ⟨g, 0, none⟩ ∧ W.cell? ⟨g, j, none⟩ = some (.pointer (some ⟨S.ds[j].p, 0, none⟩))
  row1 : ∀ j (hj : j < S.rs.length), ∃ g, gr = some ⟨g, 0, none⟩ ∧ W.cell? ⟨g, j, none⟩ = some (.pointer (some ⟨S.rs[j].p, 0, none⟩))
  box : ∀ j, W.cell? ⟨fb, j, none⟩ = cs[j]?
  on : WOn w0 W S
  upd : Upd (fun _ => False) w W

theorem plays_cells {w0 w : World} {S : WS} (hw : WOn w0 w S) (cs : Array Value) : ∃ gd gr dc rc, S.ds.length ≤ dc ∧ S.rs.length ≤ rc ∧ ∀ W : World, Upd (fun _ => False) w W → W.heap[w.heap.size]? = some (.cells cs 42 (0, 0)) → PlaysCells w0 w S w.heap.size cs gd gr dc rc W := by
  have hm := hw.mem
  obtain ⟨gd, dc, hdv, -, hd⟩ := owns_shape hm.rowD
  obtain ⟨gr, rc, hrv, -, hr⟩ := owns_shape hm.rowR
  have hdc : S.ds.length ≤ dc := by
    rcases hm.rowD.2 with ⟨e, hz⟩ | ⟨g, cap, cur, e, -, -, h1, -⟩
    · omega
    · rw [hdv] at e; injection e with _ _ e3; omega
  have hrc : S.rs.length ≤ rc := by
    rcases hm.rowR.2 with ⟨e, hz⟩ | ⟨g, cap, cur, e, -, -, h1, -⟩
    · omega
    · rw [hrv] at e; injection e with _ _ e3; omega
  refine ⟨gd, gr, dc, rc, hdc, hrc, fun W hW hbx => ?_⟩
  have htop := hW.get hm.top (fun h => h)
  refine ⟨by rw [cell_of_row W _ 0 _ _ _ htop, ← hdv]; rfl, by rw [cell_of_row W _ 1 _ _ _ htop, ← hrv]; rfl, fun j hj => ?_, fun j hj => ?_, fun j => by rw [cell_of_row W _ j _ _ _ hbx], hw.keep hW, hW⟩
  · obtain ⟨g, e, -, hg, hc⟩ := hd j hj
    refine ⟨g, e, ?_⟩
    rw [World.cell?_of_block (w := w) (a := ⟨g, j, none⟩) (hW.block g hg (fun h => h)), hc j (by simpa using hj)]
    simp [ptrD]
  · obtain ⟨g, e, -, hg, hc⟩ := hr j hj
    refine ⟨g, e, ?_⟩
    rw [World.cell?_of_block (w := w) (a := ⟨g, j, none⟩) (hW.block g hg (fun h => h)), hc j (by simpa using hj)]
    simp [ptrR]

set_option maxRecDepth 100000 in
set_option maxHeartbeats 3200000 in
theorem plays_acts {w0 w : World} {S : WS} {o : OpI} (hw : WOn w0 w S) (ho : OpShapes o) (hL : 0 < S.ds.length) (hk : o.kind = 1 ∨ o.kind = 2 ∨ o.kind = 3 ∨ o.kind = 4 ∨ o.kind = 5)
    (hact : ∀ i (hi : i < S.ds.length) (hi' : i < S.rs.length) W, WOn w0 W S → Upd (fun _ => False) w W → Calls Tryz.prog 45 #[.pointer (some ⟨S.p, 0, none⟩), .agg o.cells, ptrD S.ds[i], ptrR S.rs[i]] W fun e w' => ActedM w0 W S 268435456 e w') :
    Calls Tryz.prog 22 #[.pointer (some ⟨S.p, 0, none⟩), .agg o.cells] w fun e w' => ActedM w0 w S 268435456 e w' := by
  obtain ⟨ba, bc, ca, cl, cc, fa, fl, fc, hb1, hc1, hf1⟩ := ho.get
  have hcells : o.cells = #[.int .i64 o.kind, .int .i64 o.obj, .string o.name, .string o.dest, .slice ba o.bs.length bc, .int .i64 o.pos, .int .i64 o.n, .slice ca cl cc, .slice fa fl fc] := by unfold OpI.cells; rw [hb1, hc1, hf1]
  rw [hcells] at hact ⊢
  obtain ⟨gd, gr, dc, rc, hdc, hrc, hPC⟩ := plays_cells hw #[.int .i64 o.kind, .int .i64 o.obj, .string o.name, .string o.dest, .slice ba o.bs.length bc, .int .i64 o.pos, .int .i64 o.n, .slice ca cl cc, .slice fa fl fc]
  obtain ⟨x, hx, hx1, hx2⟩ := whose o.obj S.ds.length hL
  have hlen := hw.mem.len
  have hfew := hw.few
  have HACT := hid hact; have HPC := hid hPC; have HLEN := hid hlen
  have htop := hw.mem.top
  have hpl := lt_of_heap htop
  clear hw ho hb1 hc1 hf1 hcells hact hPC htop
  obtain ⟨L, hLL⟩ : ∃ L, L = S.ds.length := ⟨_, rfl⟩
  have HLL := hid hLL
  have HL2 := hid (show L = S.rs.length by omega)
  obtain ⟨j, hj⟩ : ∃ j : Nat, (j : Int) = if x < 0 then x + (L : Int) else x := ⟨(if x < 0 then x + (L : Int) else x).toNat, by split <;> omega⟩
  have hjL : j < L := by split at hj <;> omega
  have hj1 : j < S.ds.length := by rw [hLL] at hjL; exact hjL
  have hj2 : j < S.rs.length := by rw [hlen]; exact hj1
  rw [← hLL] at hx hx1 hx2 hL hdc hfew
  rw [show S.rs.length = L by omega] at hrc
  have HJ := hid hj
  clear hlen hj hLL
  generalize o.kind = kd at *
  by_cases hxn : x < 0
  · have hjx : (j : Int) = x + (L : Int) := by have h := HJ.out; rw [if_pos hxn] at h; exact h
    rcases hk with rfl | rfl | rfl | rfl | rfl
    all_goals
      go_enter Tryz.func22, Tryz.ntmps22
      go_upto_region 1 with fail
      obtain ⟨q1', q2', q3', q4', q5', q6', q7'⟩ := HPC.out _ ((Upd.refl (fun _ => False) w).alloc _) (heap_alloc_new w _)
      have b1 := q5' 1
      obtain ⟨gdd, rfl, r1'⟩ := q3' j hj1
      obtain ⟨grr, rfl, r2'⟩ := q4' j hj2
      rw [← HLL.out] at q1'
      rw [← HL2.out] at q2'
      have hne : (L : Int) ≠ 0 := by omega
      have hgd := World.block_lt_of_cell? _ _ r1'
      have hgr := World.block_lt_of_cell? _ _ r2'
      have hpp := World.block_lt_of_cell? _ _ q1'
      obtain ⟨fb, hfb⟩ : ∃ fb, fb = w.heap.size := ⟨_, rfl⟩
      rw [← hfb] at b1 q5' ⊢
      have c0 := q5' 0
      have c2 := q5' 2
      have c3 := q5' 3
      have c4 := q5' 4
      have c5 := q5' 5
      have c6 := q5' 6
      have c7 := q5' 7
      have c8 := q5' 8
      have hfbl := World.block_lt_of_cell? _ _ b1
      simp only [List.getElem?_toArray, List.getElem?_cons_zero, List.getElem?_cons_succ] at b1 c0 c2 c3 c4 c5 c6 c7 c8
      have Q6 := hid q6'
      have HUWB := hid q7'
      clear q3' q4' q5' q6' q7'
      generalize w.alloc _ = wb at *
      have HA := hid (HACT.out j hj1 hj2)
      simp only [ptrD, ptrR] at HA
      clear HPC hfb HACT
      go_quiet (fail)
      revert nq
      intro q
      replace q1' : (wb.drewN q).cell? _ = _ := q1'
      replace q2' : (wb.drewN q).cell? _ = _ := q2'
      replace r1' : (wb.drewN q).cell? _ = _ := r1'
      replace r2' : (wb.drewN q).cell? _ = _ := r2'
      replace b1 : (wb.drewN q).cell? _ = _ := b1
      replace c0 : (wb.drewN q).cell? _ = _ := c0
      replace c2 : (wb.drewN q).cell? _ = _ := c2
      replace c3 : (wb.drewN q).cell? _ = _ := c3
      replace c4 : (wb.drewN q).cell? _ = _ := c4
      replace c5 : (wb.drewN q).cell? _ = _ := c5
      replace c6 : (wb.drewN q).cell? _ = _ := c6
      replace c7 : (wb.drewN q).cell? _ = _ := c7
      replace c8 : (wb.drewN q).cell? _ = _ := c8
      replace hgd : gdd < (wb.drewN q).heap.size := hgd
      replace hgr : grr < (wb.drewN q).heap.size := hgr
      replace hpp : S.p < (wb.drewN q).heap.size := hpp
      replace hfbl : fb < (wb.drewN q).heap.size := hfbl
      have Q7 := hid (Q6.out.keep ((Upd.refl (fun _ => False) wb).drewN q))
      have HUWQ := hid (HUWB.out.drewN q)
      clear Q6 HUWB
      generalize wb.drewN q = wq at *
      go_upto_region 17 with fail
      rw [← hjx]
      clear hjx
      go_still_tail 16, (by kernel_rfl)
      change wpList _ _ _ _ _ wq.drew
      go_wp2_with fail
      refine (HA.out wq.drew (Q7.out.keep ((Upd.refl _ _).drew)) HUWQ.out.drew).mono ?_
      rintro e w' ⟨rfl, S', p1, p2, p3, p4, p5, p6⟩
      have P1 := hid p1; have P2 := hid p2; have P3 := hid p3; have P4 := hid p4; have P5 := hid p5
      have P6 := hid ((Turn.keep w.heap.size S HUWQ.out.drew).trans (p6.low (show w.heap.size ≤ wq.drew.heap.size from HUWQ.out.size)))
      clear p1 p2 p3 p4 p5 p6
      go_wp2
      go_ret
      exact ⟨rfl, S', P1.out, P2.out, P3.out, P4.out, P5.out, P6.out⟩
  · obtain rfl : x = (j : Int) := by have h := HJ.out; rw [if_neg hxn] at h; exact h.symm
    rcases hk with rfl | rfl | rfl | rfl | rfl
    all_goals
      go_enter Tryz.func22, Tryz.ntmps22
      go_upto_region 1 with fail
      obtain ⟨q1', q2', q3', q4', q5', q6', q7'⟩ := HPC.out _ ((Upd.refl (fun _ => False) w).alloc _) (heap_alloc_new w _)
      have b1 := q5' 1
      obtain ⟨gdd, rfl, r1'⟩ := q3' j hj1
      obtain ⟨grr, rfl, r2'⟩ := q4' j hj2
      rw [← HLL.out] at q1'
      rw [← HL2.out] at q2'
      have hne : (L : Int) ≠ 0 := by omega
      have hgd := World.block_lt_of_cell? _ _ r1'
      have hgr := World.block_lt_of_cell? _ _ r2'
      have hpp := World.block_lt_of_cell? _ _ q1'
      obtain ⟨fb, hfb⟩ : ∃ fb, fb = w.heap.size := ⟨_, rfl⟩
      rw [← hfb] at b1 q5' ⊢
      have c0 := q5' 0
      have c2 := q5' 2
      have c3 := q5' 3
      have c4 := q5' 4
      have c5 := q5' 5
      have c6 := q5' 6
      have c7 := q5' 7
      have c8 := q5' 8
      have hfbl := World.block_lt_of_cell? _ _ b1
      simp only [List.getElem?_toArray, List.getElem?_cons_zero, List.getElem?_cons_succ] at b1 c0 c2 c3 c4 c5 c6 c7 c8
      have Q6 := hid q6'
      have HUWB := hid q7'
      clear q3' q4' q5' q6' q7'
      generalize w.alloc _ = wb at *
      have HA := hid (HACT.out j hj1 hj2)
      simp only [ptrD, ptrR] at HA
      clear HPC hfb HACT
      go_quiet (fail)
      revert nq
      intro q
      replace q1' : (wb.drewN q).cell? _ = _ := q1'
      replace q2' : (wb.drewN q).cell? _ = _ := q2'
      replace r1' : (wb.drewN q).cell? _ = _ := r1'
      replace r2' : (wb.drewN q).cell? _ = _ := r2'
      replace b1 : (wb.drewN q).cell? _ = _ := b1
      replace c0 : (wb.drewN q).cell? _ = _ := c0
      replace c2 : (wb.drewN q).cell? _ = _ := c2
      replace c3 : (wb.drewN q).cell? _ = _ := c3
      replace c4 : (wb.drewN q).cell? _ = _ := c4
      replace c5 : (wb.drewN q).cell? _ = _ := c5
      replace c6 : (wb.drewN q).cell? _ = _ := c6
      replace c7 : (wb.drewN q).cell? _ = _ := c7
      replace c8 : (wb.drewN q).cell? _ = _ := c8
      replace hgd : gdd < (wb.drewN q).heap.size := hgd
      replace hgr : grr < (wb.drewN q).heap.size := hgr
      replace hpp : S.p < (wb.drewN q).heap.size := hpp
      replace hfbl : fb < (wb.drewN q).heap.size := hfbl
      have Q7 := hid (Q6.out.keep ((Upd.refl (fun _ => False) wb).drewN q))
      have HUWQ := hid (HUWB.out.drewN q)
      clear Q6 HUWB
      generalize wb.drewN q = wq at *
      go_upto_region 17 with fail
      go_still_tail 16, (by kernel_rfl)
      change wpList _ _ _ _ _ wq.drew
      go_wp2_with fail
      refine (HA.out wq.drew (Q7.out.keep ((Upd.refl _ _).drew)) HUWQ.out.drew).mono ?_
      rintro e w' ⟨rfl, S', p1, p2, p3, p4, p5, p6⟩
      have P1 := hid p1; have P2 := hid p2; have P3 := hid p3; have P4 := hid p4; have P5 := hid p5
      have P6 := hid ((Turn.keep w.heap.size S HUWQ.out.drew).trans (p6.low (show w.heap.size ≤ wq.drew.heap.size from HUWQ.out.size)))
      clear p1 p2 p3 p4 p5 p6
      go_wp2
      go_ret
      exact ⟨rfl, S', P1.out, P2.out, P3.out, P4.out, P5.out, P6.out⟩

set_option maxRecDepth 100000 in
set_option maxHeartbeats 3200000 in
theorem plays_tells {w0 w : World} {S : WS} {o : OpI} (hw : WOn w0 w S) (ho : OpShapes o) (hL : 0 < S.ds.length) (hk : o.kind = 7)
    (hact : ∀ i (hi : i < S.ds.length) (hi' : i < S.rs.length) W, WOn w0 W S → Upd (fun _ => False) w W → Calls Tryz.prog 46 #[.pointer (some ⟨S.p, 0, none⟩), .agg o.cells, ptrD S.ds[i], ptrR S.rs[i]] W fun e w' => ActedM w0 W S 268435456 e w') :
    Calls Tryz.prog 22 #[.pointer (some ⟨S.p, 0, none⟩), .agg o.cells] w fun e w' => ActedM w0 w S 268435456 e w' := by
  obtain ⟨ba, bc, ca, cl, cc, fa, fl, fc, hb1, hc1, hf1⟩ := ho.get
  have hcells : o.cells = #[.int .i64 o.kind, .int .i64 o.obj, .string o.name, .string o.dest, .slice ba o.bs.length bc, .int .i64 o.pos, .int .i64 o.n, .slice ca cl cc, .slice fa fl fc] := by unfold OpI.cells; rw [hb1, hc1, hf1]
  rw [hcells] at hact ⊢
  obtain ⟨gd, gr, dc, rc, hdc, hrc, hPC⟩ := plays_cells hw #[.int .i64 o.kind, .int .i64 o.obj, .string o.name, .string o.dest, .slice ba o.bs.length bc, .int .i64 o.pos, .int .i64 o.n, .slice ca cl cc, .slice fa fl fc]
  obtain ⟨x, hx, hx1, hx2⟩ := whose o.obj S.ds.length hL
  have hlen := hw.mem.len
  have hfew := hw.few
  have HACT := hid hact; have HPC := hid hPC; have HLEN := hid hlen
  have htop := hw.mem.top
  have hpl := lt_of_heap htop
  clear hw ho hb1 hc1 hf1 hcells hact hPC htop
  obtain ⟨L, hLL⟩ : ∃ L, L = S.ds.length := ⟨_, rfl⟩
  have HLL := hid hLL
  have HL2 := hid (show L = S.rs.length by omega)
  obtain ⟨j, hj⟩ : ∃ j : Nat, (j : Int) = if x < 0 then x + (L : Int) else x := ⟨(if x < 0 then x + (L : Int) else x).toNat, by split <;> omega⟩
  have hjL : j < L := by split at hj <;> omega
  have hj1 : j < S.ds.length := by rw [hLL] at hjL; exact hjL
  have hj2 : j < S.rs.length := by rw [hlen]; exact hj1
  rw [← hLL] at hx hx1 hx2 hL hdc hfew
  rw [show S.rs.length = L by omega] at hrc
  have HJ := hid hj
  clear hlen hj hLL
  generalize o.kind = kd at *
  by_cases hxn : x < 0
  · have hjx : (j : Int) = x + (L : Int) := by have h := HJ.out; rw [if_pos hxn] at h; exact h
    subst hk
    all_goals
      go_enter Tryz.func22, Tryz.ntmps22
      go_upto_region 1 with fail
      obtain ⟨q1', q2', q3', q4', q5', q6', q7'⟩ := HPC.out _ ((Upd.refl (fun _ => False) w).alloc _) (heap_alloc_new w _)
      have b1 := q5' 1
      obtain ⟨gdd, rfl, r1'⟩ := q3' j hj1
      obtain ⟨grr, rfl, r2'⟩ := q4' j hj2
      rw [← HLL.out] at q1'
      rw [← HL2.out] at q2'
      have hne : (L : Int) ≠ 0 := by omega
      have hgd := World.block_lt_of_cell? _ _ r1'
      have hgr := World.block_lt_of_cell? _ _ r2'
      have hpp := World.block_lt_of_cell? _ _ q1'
      obtain ⟨fb, hfb⟩ : ∃ fb, fb = w.heap.size := ⟨_, rfl⟩
      rw [← hfb] at b1 q5' ⊢
      have c0 := q5' 0
      have c2 := q5' 2
      have c3 := q5' 3
      have c4 := q5' 4
      have c5 := q5' 5
      have c6 := q5' 6
      have c7 := q5' 7
      have c8 := q5' 8
      have hfbl := World.block_lt_of_cell? _ _ b1
      simp only [List.getElem?_toArray, List.getElem?_cons_zero, List.getElem?_cons_succ] at b1 c0 c2 c3 c4 c5 c6 c7 c8
      have Q6 := hid q6'
      have HUWB := hid q7'
      clear q3' q4' q5' q6' q7'
      generalize w.alloc _ = wb at *
      have HA := hid (HACT.out j hj1 hj2)
      simp only [ptrD, ptrR] at HA
      clear HPC hfb HACT
      go_quiet (fail)
      revert nq
      intro q
      replace q1' : (wb.drewN q).cell? _ = _ := q1'
      replace q2' : (wb.drewN q).cell? _ = _ := q2'
      replace r1' : (wb.drewN q).cell? _ = _ := r1'
      replace r2' : (wb.drewN q).cell? _ = _ := r2'
      replace b1 : (wb.drewN q).cell? _ = _ := b1
      replace c0 : (wb.drewN q).cell? _ = _ := c0
      replace c2 : (wb.drewN q).cell? _ = _ := c2
      replace c3 : (wb.drewN q).cell? _ = _ := c3
      replace c4 : (wb.drewN q).cell? _ = _ := c4
      replace c5 : (wb.drewN q).cell? _ = _ := c5
      replace c6 : (wb.drewN q).cell? _ = _ := c6
      replace c7 : (wb.drewN q).cell? _ = _ := c7
      replace c8 : (wb.drewN q).cell? _ = _ := c8
      replace hgd : gdd < (wb.drewN q).heap.size := hgd
      replace hgr : grr < (wb.drewN q).heap.size := hgr
      replace hpp : S.p < (wb.drewN q).heap.size := hpp
      replace hfbl : fb < (wb.drewN q).heap.size := hfbl
      have Q7 := hid (Q6.out.keep ((Upd.refl (fun _ => False) wb).drewN q))
      have HUWQ := hid (HUWB.out.drewN q)
      clear Q6 HUWB
      generalize wb.drewN q = wq at *
      go_upto_region 18 with fail
      rw [← hjx]
      clear hjx
      go_still_tail 16, (by kernel_rfl)
      change wpList _ _ _ _ _ wq.drew
      go_wp2_with fail
      refine (HA.out wq.drew (Q7.out.keep ((Upd.refl _ _).drew)) HUWQ.out.drew).mono ?_
      rintro e w' ⟨rfl, S', p1, p2, p3, p4, p5, p6⟩
      have P1 := hid p1; have P2 := hid p2; have P3 := hid p3; have P4 := hid p4; have P5 := hid p5
      have P6 := hid ((Turn.keep w.heap.size S HUWQ.out.drew).trans (p6.low (show w.heap.size ≤ wq.drew.heap.size from HUWQ.out.size)))
      clear p1 p2 p3 p4 p5 p6
      go_wp2
      go_ret
      exact ⟨rfl, S', P1.out, P2.out, P3.out, P4.out, P5.out, P6.out⟩
  · obtain rfl : x = (j : Int) := by have h := HJ.out; rw [if_neg hxn] at h; exact h.symm
    subst hk
    all_goals
      go_enter Tryz.func22, Tryz.ntmps22
      go_upto_region 1 with fail
      obtain ⟨q1', q2', q3', q4', q5', q6', q7'⟩ := HPC.out _ ((Upd.refl (fun _ => False) w).alloc _) (heap_alloc_new w _)
      have b1 := q5' 1
      obtain ⟨gdd, rfl, r1'⟩ := q3' j hj1
      obtain ⟨grr, rfl, r2'⟩ := q4' j hj2
      rw [← HLL.out] at q1'
      rw [← HL2.out] at q2'
      have hne : (L : Int) ≠ 0 := by omega
      have hgd := World.block_lt_of_cell? _ _ r1'
      have hgr := World.block_lt_of_cell? _ _ r2'
      have hpp := World.block_lt_of_cell? _ _ q1'
      obtain ⟨fb, hfb⟩ : ∃ fb, fb = w.heap.size := ⟨_, rfl⟩
      rw [← hfb] at b1 q5' ⊢
      have c0 := q5' 0
      have c2 := q5' 2
      have c3 := q5' 3
      have c4 := q5' 4
      have c5 := q5' 5
      have c6 := q5' 6
      have c7 := q5' 7
      have c8 := q5' 8
      have hfbl := World.block_lt_of_cell? _ _ b1
      simp only [List.getElem?_toArray, List.getElem?_cons_zero, List.getElem?_cons_succ] at b1 c0 c2 c3 c4 c5 c6 c7 c8
      have Q6 := hid q6'
      have HUWB := hid q7'
      clear q3' q4' q5' q6' q7'
      generalize w.alloc _ = wb at *
      have HA := hid (HACT.out j hj1 hj2)
      simp only [ptrD, ptrR] at HA
      clear HPC hfb HACT
      go_quiet (fail)
      revert nq
      intro q
      replace q1' : (wb.drewN q).cell? _ = _ := q1'
      replace q2' : (wb.drewN q).cell? _ = _ := q2'
      replace r1' : (wb.drewN q).cell? _ = _ := r1'
      replace r2' : (wb.drewN q).cell? _ = _ := r2'
      replace b1 : (wb.drewN q).cell? _ = _ := b1
      replace c0 : (wb.drewN q).cell? _ = _ := c0
      replace c2 : (wb.drewN q).cell? _ = _ := c2
      replace c3 : (wb.drewN q).cell? _ = _ := c3
      replace c4 : (wb.drewN q).cell? _ = _ := c4
      replace c5 : (wb.drewN q).cell? _ = _ := c5
      replace c6 : (wb.drewN q).cell? _ = _ := c6
      replace c7 : (wb.drewN q).cell? _ = _ := c7
      replace c8 : (wb.drewN q).cell? _ = _ := c8
      replace hgd : gdd < (wb.drewN q).heap.size := hgd
      replace hgr : grr < (wb.drewN q).heap.size := hgr
      replace hpp : S.p < (wb.drewN q).heap.size := hpp
      replace hfbl : fb < (wb.drewN q).heap.size := hfbl
      have Q7 := hid (Q6.out.keep ((Upd.refl (fun _ => False) wb).drewN q))
      have HUWQ := hid (HUWB.out.drewN q)
      clear Q6 HUWB
      generalize wb.drewN q = wq at *
      go_upto_region 18 with fail
      go_still_tail 16, (by kernel_rfl)
      change wpList _ _ _ _ _ wq.drew
      go_wp2_with fail
      refine (HA.out wq.drew (Q7.out.keep ((Upd.refl _ _).drew)) HUWQ.out.drew).mono ?_
      rintro e w' ⟨rfl, S', p1, p2, p3, p4, p5, p6⟩
      have P1 := hid p1; have P2 := hid p2; have P3 := hid p3; have P4 := hid p4; have P5 := hid p5
      have P6 := hid ((Turn.keep w.heap.size S HUWQ.out.drew).trans (p6.low (show w.heap.size ≤ wq.drew.heap.size from HUWQ.out.size)))
      clear p1 p2 p3 p4 p5 p6
      go_wp2
      go_ret
      exact ⟨rfl, S', P1.out, P2.out, P3.out, P4.out, P5.out, P6.out⟩

set_option maxRecDepth 100000 in
set_option maxHeartbeats 3200000 in
theorem plays_makes {w0 w : World} {S : WS} {o : OpI} (hw : WOn w0 w S) (ho : OpShapes o) (hL : 0 < S.ds.length) (hk : o.kind = 17 ∨ o.kind = 18)
    (hact : ∀ (i : Nat) W, WOn w0 W S → Upd (fun _ => False) w W → Calls Tryz.prog 44 #[.pointer (some ⟨S.p, 0, none⟩), .agg o.cells, .int .i64 i] W fun e w' => ActedM w0 W S 268435456 e w') :
    Calls Tryz.prog 22 #[.pointer (some ⟨S.p, 0, none⟩), .agg o.cells] w fun e w' => ActedM w0 w S 268435456 e w' := by
  obtain ⟨ba, bc, ca, cl, cc, fa, fl, fc, hb1, hc1, hf1⟩ := ho.get
  have hcells : o.cells = #[.int .i64 o.kind, .int .i64 o.obj, .string o.name, .string o.dest, .slice ba o.bs.length bc, .int .i64 o.pos, .int .i64 o.n, .slice ca cl cc, .slice fa fl fc] := by unfold OpI.cells; rw [hb1, hc1, hf1]
  rw [hcells] at hact ⊢
  obtain ⟨gd, gr, dc, rc, hdc, hrc, hPC⟩ := plays_cells hw #[.int .i64 o.kind, .int .i64 o.obj, .string o.name, .string o.dest, .slice ba o.bs.length bc, .int .i64 o.pos, .int .i64 o.n, .slice ca cl cc, .slice fa fl fc]
  obtain ⟨x, hx, hx1, hx2⟩ := whose o.obj S.ds.length hL
  have hlen := hw.mem.len
  have hfew := hw.few
  have HACT := hid hact; have HPC := hid hPC; have HLEN := hid hlen
  have htop := hw.mem.top
  have hpl := lt_of_heap htop
  clear hw ho hb1 hc1 hf1 hcells hact hPC htop
  obtain ⟨L, hLL⟩ : ∃ L, L = S.ds.length := ⟨_, rfl⟩
  have HLL := hid hLL
  have HL2 := hid (show L = S.rs.length by omega)
  obtain ⟨j, hj⟩ : ∃ j : Nat, (j : Int) = if x < 0 then x + (L : Int) else x := ⟨(if x < 0 then x + (L : Int) else x).toNat, by split <;> omega⟩
  have hjL : j < L := by split at hj <;> omega
  have hj1 : j < S.ds.length := by rw [hLL] at hjL; exact hjL
  have hj2 : j < S.rs.length := by rw [hlen]; exact hj1
  rw [← hLL] at hx hx1 hx2 hL hdc hfew
  rw [show S.rs.length = L by omega] at hrc
  have HJ := hid hj
  clear hlen hj hLL
  generalize o.kind = kd at *
  by_cases hxn : x < 0
  · have hjx : (j : Int) = x + (L : Int) := by have h := HJ.out; rw [if_pos hxn] at h; exact h
    rcases hk with rfl | rfl
    all_goals
      go_enter Tryz.func22, Tryz.ntmps22
      go_upto_region 1 with fail
      obtain ⟨q1', q2', q3', q4', q5', q6', q7'⟩ := HPC.out _ ((Upd.refl (fun _ => False) w).alloc _) (heap_alloc_new w _)
      have b1 := q5' 1
      obtain ⟨gdd, rfl, r1'⟩ := q3' j hj1
      obtain ⟨grr, rfl, r2'⟩ := q4' j hj2
      rw [← HLL.out] at q1'
      rw [← HL2.out] at q2'
      have hne : (L : Int) ≠ 0 := by omega
      have hgd := World.block_lt_of_cell? _ _ r1'
      have hgr := World.block_lt_of_cell? _ _ r2'
      have hpp := World.block_lt_of_cell? _ _ q1'
      obtain ⟨fb, hfb⟩ : ∃ fb, fb = w.heap.size := ⟨_, rfl⟩
      rw [← hfb] at b1 q5' ⊢
      have c0 := q5' 0
      have c2 := q5' 2
      have c3 := q5' 3
      have c4 := q5' 4
      have c5 := q5' 5
      have c6 := q5' 6
      have c7 := q5' 7
      have c8 := q5' 8
      have hfbl := World.block_lt_of_cell? _ _ b1
      simp only [List.getElem?_toArray, List.getElem?_cons_zero, List.getElem?_cons_succ] at b1 c0 c2 c3 c4 c5 c6 c7 c8
      have Q6 := hid q6'
      have HUWB := hid q7'
      clear q3' q4' q5' q6' q7'
      generalize w.alloc _ = wb at *
      have HA := hid (HACT.out j)
      clear HPC hfb HACT
      go_quiet (fail)
      revert nq
      intro q
      replace q1' : (wb.drewN q).cell? _ = _ := q1'
      replace q2' : (wb.drewN q).cell? _ = _ := q2'
      replace r1' : (wb.drewN q).cell? _ = _ := r1'
      replace r2' : (wb.drewN q).cell? _ = _ := r2'
      replace b1 : (wb.drewN q).cell? _ = _ := b1
      replace c0 : (wb.drewN q).cell? _ = _ := c0
      replace c2 : (wb.drewN q).cell? _ = _ := c2
      replace c3 : (wb.drewN q).cell? _ = _ := c3
      replace c4 : (wb.drewN q).cell? _ = _ := c4
      replace c5 : (wb.drewN q).cell? _ = _ := c5
      replace c6 : (wb.drewN q).cell? _ = _ := c6
      replace c7 : (wb.drewN q).cell? _ = _ := c7
      replace c8 : (wb.drewN q).cell? _ = _ := c8
      replace hgd : gdd < (wb.drewN q).heap.size := hgd
      replace hgr : grr < (wb.drewN q).heap.size := hgr
      replace hpp : S.p < (wb.drewN q).heap.size := hpp
      replace hfbl : fb < (wb.drewN q).heap.size := hfbl
      have Q7 := hid (Q6.out.keep ((Upd.refl (fun _ => False) wb).drewN q))
      have HUWQ := hid (HUWB.out.drewN q)
      clear Q6 HUWB
      generalize wb.drewN q = wq at *
      go_upto_region 8 with fail
      rw [← hjx]
      clear hjx
      go_wp2_with fail
      refine (HA.out wq Q7.out HUWQ.out).mono ?_
      rintro e w' ⟨rfl, S', p1, p2, p3, p4, p5, p6⟩
      have P1 := hid p1; have P2 := hid p2; have P3 := hid p3; have P4 := hid p4; have P5 := hid p5
      have P6 := hid ((Turn.keep w.heap.size S HUWQ.out).trans (p6.low HUWQ.out.size))
      clear p1 p2 p3 p4 p5 p6
      go_wp2
      go_ret
      exact ⟨rfl, S', P1.out, P2.out, P3.out, P4.out, P5.out, P6.out⟩
  · obtain rfl : x = (j : Int) := by have h := HJ.out; rw [if_neg hxn] at h; exact h.symm
    rcases hk with rfl | rfl
    all_goals
      go_enter Tryz.func22, Tryz.ntmps22
      go_upto_region 1 with fail
      obtain ⟨q1', q2', q3', q4', q5', q6', q7'⟩ := HPC.out _ ((Upd.refl (fun _ => False) w).alloc _) (heap_alloc_new w _)
      have b1 := q5' 1
      obtain ⟨gdd, rfl, r1'⟩ := q3' j hj1
      obtain ⟨grr, rfl, r2'⟩ := q4' j hj2
      rw [← HLL.out] at q1'
      rw [← HL2.out] at q2'
      have hne : (L : Int) ≠ 0 := by omega
      have hgd := World.block_lt_of_cell? _ _ r1'
      have hgr := World.block_lt_of_cell? _ _ r2'
      have hpp := World.block_lt_of_cell? _ _ q1'
      obtain ⟨fb, hfb⟩ : ∃ fb, fb = w.heap.size := ⟨_, rfl⟩
      rw [← hfb] at b1 q5' ⊢
      have c0 := q5' 0
      have c2 := q5' 2
      have c3 := q5' 3
      have c4 := q5' 4
      have c5 := q5' 5
      have c6 := q5' 6
      have c7 := q5' 7
      have c8 := q5' 8
      have hfbl := World.block_lt_of_cell? _ _ b1
      simp only [List.getElem?_toArray, List.getElem?_cons_zero, List.getElem?_cons_succ] at b1 c0 c2 c3 c4 c5 c6 c7 c8
      have Q6 := hid q6'
      have HUWB := hid q7'
      clear q3' q4' q5' q6' q7'
      generalize w.alloc _ = wb at *
      have HA := hid (HACT.out j)
      clear HPC hfb HACT
      go_quiet (fail)
      revert nq
      intro q
      replace q1' : (wb.drewN q).cell? _ = _ := q1'
      replace q2' : (wb.drewN q).cell? _ = _ := q2'
      replace r1' : (wb.drewN q).cell? _ = _ := r1'
      replace r2' : (wb.drewN q).cell? _ = _ := r2'
      replace b1 : (wb.drewN q).cell? _ = _ := b1
      replace c0 : (wb.drewN q).cell? _ = _ := c0
      replace c2 : (wb.drewN q).cell? _ = _ := c2
      replace c3 : (wb.drewN q).cell? _ = _ := c3
      replace c4 : (wb.drewN q).cell? _ = _ := c4
      replace c5 : (wb.drewN q).cell? _ = _ := c5
      replace c6 : (wb.drewN q).cell? _ = _ := c6
      replace c7 : (wb.drewN q).cell? _ = _ := c7
      replace c8 : (wb.drewN q).cell? _ = _ := c8
      replace hgd : gdd < (wb.drewN q).heap.size := hgd
      replace hgr : grr < (wb.drewN q).heap.size := hgr
      replace hpp : S.p < (wb.drewN q).heap.size := hpp
      replace hfbl : fb < (wb.drewN q).heap.size := hfbl
      have Q7 := hid (Q6.out.keep ((Upd.refl (fun _ => False) wb).drewN q))
      have HUWQ := hid (HUWB.out.drewN q)
      clear Q6 HUWB
      generalize wb.drewN q = wq at *
      go_upto_region 8 with fail
      go_wp2_with fail
      refine (HA.out wq Q7.out HUWQ.out).mono ?_
      rintro e w' ⟨rfl, S', p1, p2, p3, p4, p5, p6⟩
      have P1 := hid p1; have P2 := hid p2; have P3 := hid p3; have P4 := hid p4; have P5 := hid p5
      have P6 := hid ((Turn.keep w.heap.size S HUWQ.out).trans (p6.low HUWQ.out.size))
      clear p1 p2 p3 p4 p5 p6
      go_wp2
      go_ret
      exact ⟨rfl, S', P1.out, P2.out, P3.out, P4.out, P5.out, P6.out⟩

end Go.Proofs.YtohpgmeflmppaaaGreat
