/-
  stratalaw10.Room.Stand, walked.
  stratalaw10.Room.checks, walked.
-/
import Derived.Test.YtgaidmohdhaonaaGreatDoorSN
import Derived.Test.YtgaidmohdhaonaaGreatDoorYT
import Derived.Test.YtgaidmohdhaonaaGreatDoorYS
namespace Go.Proofs.YtgaidmohdhaonaaGreatDoor
set_option linter.unusedVariables false
set_option linter.unusedSimpArgs false
set_option linter.unnecessarySimpa false
set_option linter.unusedSectionVars false
open Go Go.RowKit

/-- Where a run of the list lies. -/
theorem RmIn.runAt {p B : Nat} {w : World} {dv : Value} {Ms : List MV} {st : Option DK} {ds : List DK} {R : List (Nat × Obj)} {g c NL t : Nat} {y : MV} (h : RmIn p B w (.slice (some ⟨g, 0, none⟩) NL c) Ms dv st ds R) (ht : Ms[t]? = some y) :
    w.cell? ⟨g, t * 8, none⟩ = some (.int .i64 y.m.num) ∧ w.cell? ⟨g, t * 8 + 1, none⟩ = some (.int .i64 y.m.count) ∧ w.cell? ⟨g, t * 8 + 2, none⟩ = some (.int .i64 y.m.index) ∧ w.cell? ⟨g, t * 8 + 3, none⟩ = some (.int .i64 y.m.low) ∧ w.cell? ⟨g, t * 8 + 4, none⟩ = some (.int .i64 y.m.clock) ∧ w.cell? ⟨g, t * 8 + 5, none⟩ = some (.int .i64 y.m.bytes) ∧ w.cell? ⟨g, t * 8 + 6, none⟩ = some y.f ∧ w.cell? ⟨g, t * 8 + 7, none⟩ = some y.l ∧ g < w.heap.size := by
  obtain ⟨lab, h⟩ := h
  obtain ⟨htl, hty⟩ := List.getElem?_eq_some_iff.1 ht
  have hc : ∀ j, j < 8 → w.cell? ⟨g, t * 8 + j, none⟩ = (MV.cells y)[j]? ∧ g < w.heap.size := fun j hj => by
    have hf := flat_get MV.cells 8 (fun a => rfl) Ms t htl j hj
    rw [hty] at hf
    have hj8 : j < (MV.cells y).length := hj
    rw [List.getElem?_eq_getElem hj8] at hf ⊢
    obtain ⟨g', c', e', hg, hcell⟩ := SRow.cell h.row hf
    injection e' with e' _ _
    injection e' with e'
    injection e' with e'
    subst e'
    exact ⟨hcell, hg⟩
  exact ⟨(hc 0 (by omega)).1, (hc 1 (by omega)).1, (hc 2 (by omega)).1, (hc 3 (by omega)).1, (hc 4 (by omega)).1, (hc 5 (by omega)).1, (hc 6 (by omega)).1, (hc 7 (by omega)).1, (hc 0 (by omega)).2⟩

set_option maxRecDepth 100000 in
set_option maxHeartbeats 12800000 in
theorem stand_any {p B : Nat} {w : World} {lv dv v : Value} {Ms : List MV} {k : DK} {ds : List DK} {R : List (Nat × Obj)} {x : VerA} (h : RmIn p B w lv Ms dv (some k) ds R) (hlt : LaidTo x.runs.length x.runs Ms ds) (hk : k.Lent x.state) (hv : VerK p B w v x) (hx : VerSm x) (hms : Ms.length ≤ 3000000000000) (hds : ds.length ≤ 4000000000000) :
    Calls Tryz.prog 82 #[.pointer (some ⟨p, 0, none⟩), v] w fun e w' => e = .returned (.bool true) ∧ ∃ k' ds', RmIn p B w' lv Ms dv (some k') ds' R ∧ Upd (OutR p B) w w' ∧ (ds' : List DK).length = ds.length := by
  have HV := hid hv
  obtain ⟨s1, d1, s2, d2, rfl, hb, hr⟩ := hv.open
  have HB := hid hb; have HR := hid hr; have HX := hid hx; have HRM0 := hid h; have HLT := hid hlt; have HLN := hid hk
  obtain ⟨m1, hm1⟩ : ∃ m, m = x.state.length := ⟨_, rfl⟩
  obtain ⟨nx, hnx⟩ : ∃ m, m = x.runs.length := ⟨_, rfl⟩
  have hnb : nx * 96 ≤ 140737488351232 := by rw [hnx]; exact hx.2.1
  have hmb : m1 ≤ 140737488351300 := by rw [hm1]; exact hx.1
  rw [← hm1] at HB HV ⊢
  rw [← hnx] at HR HV ⊢
  have HM1 := hid hm1; have HNX := hid hnx
  obtain ⟨ha1, hua1⟩ := h.push (.cells #[.int .i64 x.gen, .int .i64 x.flushed, .int .i64 x.next, .int .i64 x.low, .int .i64 x.clock, .slice s1 m1 d1, .slice s2 nx d2] 25)
  clear hv hb hr hx h hm1 hnx hlt hk
  go_enter Tryz.func82, Tryz.ntmps82
  go_upto_region 1 with fail
  obtain ⟨p1, hp1⟩ : ∃ p, p = w.heap.size := ⟨_, rfl⟩
  rw [← hp1] at ha1
  rw [← hp1]
  have HRM := hid ha1; have HUP := hid hua1
  have HNR := hid (show ∀ y ∈ R, y.1 ≠ p1 from fun y hy e => by have := lt_of_heap (HRM0.out.get (b := y.1) (o := y.2) hy).1; omega)
  generalize w.alloc (.cells #[.int .i64 x.gen, .int .i64 x.flushed, .int .i64 x.next, .int .i64 x.low, .int .i64 x.clock, .slice s1 m1 d1, .slice s2 nx d2] 25) = W1 at HRM HUP ⊢
  clear ha1 hua1 hp1
  obtain ⟨⟨z0, z1, z2, z3, z4, z5, z6⟩, -, hzl⟩ := verCells (HRM.out.get (b := p1) (.head _)).1
  obtain ⟨ha2, hua2⟩ := HRM.out.push (.cells #[.int .i64 x.gen, .int .i64 x.flushed, .int .i64 x.next, .int .i64 x.low, .int .i64 x.clock, .slice s1 m1 d1, .slice s2 nx d2] 25)
  go_upto_region 3 with fail
  obtain ⟨p2, hp2⟩ : ∃ p, p = W1.heap.size := ⟨_, rfl⟩
  rw [← hp2] at ha2
  rw [← hp2]
  have HRM2 := hid ha2; have HUP2 := hid (HUP.out.trans hua2 (fun _ _ e => e))
  have HNE := hid (show p2 ≠ p1 ∧ ∀ y ∈ R, y.1 ≠ p2 from ⟨fun e => by have := lt_of_heap (HRM.out.get (b := p1) (.head _)).1; omega, fun y hy e => by have := lt_of_heap (HRM.out.get (b := y.1) (o := y.2) (.tail _ hy)).1; omega⟩)
  generalize W1.alloc (.cells #[.int .i64 x.gen, .int .i64 x.flushed, .int .i64 x.next, .int .i64 x.low, .int .i64 x.clock, .slice s1 m1 d1, .slice s2 nx d2] 25) = W2 at HRM2 HUP2 ⊢
  clear ha2 hua2 hp2 z0 z1 z2 z3 z4 z5 z6 hzl
  obtain ⟨⟨la, lc, rfl, hl1, hl2⟩, da, dc, rfl, hd1', hd2'⟩ := HRM2.out.shapes
  obtain ⟨NL, hNL⟩ : ∃ n, n = Ms.length := ⟨_, rfl⟩
  obtain ⟨ND, hND⟩ : ∃ n, n = ds.length := ⟨_, rfl⟩
  rw [← hNL] at HRM2 hms hl1
  rw [← hND] at HRM2 hd1' hds
  have HNL := hid hNL; have HND := hid hND
  clear hNL hND HRM0 HRM HUP
  have hdr : Upd (fun _ => False) W2 W2.drew := (Upd.refl _ _).drew
  have hrm3 := HRM2.out.quiet hdr
  obtain ⟨hkin, -⟩ := hrm3.stateOut
  obtain ⟨g, kc, hrv, -, -, -, hfl, hbl, hbm⟩ := DK.part_bat hkin HLN.out
  have hk0 : W2.drew.cell? ⟨k.p, 0, none⟩ = some (.slice (some ⟨g, 0, none⟩) k.bs.length kc) := by rw [cell_of_row _ _ 0 _ _ _ hkin.top, ← hrv]; rfl
  have hk1 : W2.drew.cell? ⟨k.p, 1, none⟩ = some (.int .i64 (m1 : Int)) := by rw [cell_of_row _ _ 1 _ _ _ hkin.top, HM1.out, ← HLN.out.n]; rfl
  have hkp : k.p < W2.drew.heap.size := lt_of_heap hkin.top
  obtain ⟨⟨t0, t1, t2⟩, -, hpl⟩ := hrm3.topcells
  simp only [Option.map_some] at t1
  have hbox := (hrm3.get (b := p2) (.head _)).1
  obtain ⟨⟨z0, z1, z2, z3, z4, z5, z6⟩, ⟨f0, f1, f2, f3, f4, f5, f6⟩, hzl⟩ := verCells hbox
  have hs4 := heap_setCell_at W2.drew p2 5 _ _ (.slice (some ⟨g, 0, none⟩) m1 kc) hbox
  obtain ⟨hrm4, hup4⟩ := hrm3.set (b := p2) (o' := .cells #[.int .i64 x.gen, .int .i64 x.flushed, .int .i64 x.next, .int .i64 x.low, .int .i64 x.clock, .slice (some ⟨g, 0, none⟩) m1 kc, .slice s2 nx d2] 25 (0, 0)) (R' := ((p1, .cells #[.int .i64 x.gen, .int .i64 x.flushed, .int .i64 x.next, .int .i64 x.low, .int .i64 x.clock, .slice s1 m1 d1, .slice s2 nx d2] 25 (0, 0)) :: R)) (.head _) (Upd.cell_only W2.drew p2 5 (.slice (some ⟨g, 0, none⟩) m1 kc)) hs4 (fun y hy => ⟨.tail _ hy, fun e => by
  rcases List.mem_cons.1 hy with h1 | h1
  · rw [h1] at e; exact HNE.out.1 e.symm
  · exact HNE.out.2 y h1 e⟩)
  have HRM4 := hid hrm4; have HUP4 := hid (HUP2.out.trans ((HRM2.out.toOut hdr).trans hup4 (fun _ _ e => e)) (fun _ _ e => e))
  have HRV := hid hrv
  have hkc : m1 ≤ kc := by rw [HM1.out]; omega
  have hkci : (m1 : Int) ≤ (kc : Int) := by omega
  have hm0 : (0 : Int) ≤ (m1 : Int) := by omega
  have hkc0 : ¬ kc = 0 := by have := HLN.out.wide; omega
  clear hrm3 hkin hrv hbox hs4 hrm4 hup4 hdr t0 t2 z0 z1 z2 z3 z4 z6 f0 f1 f2 f3 f4 f6 hfl
  obtain ⟨kl, hkl⟩ : ∃ n, n = k.bs.length := ⟨_, rfl⟩
  rw [← hkl] at hk0 hbl
  have HKL := hid hkl
  clear hkl
  go_still_tail 15, (by kernel_rfl)
  change wpList _ _ _ _ _ W2.drew
  generalize W2.drew = W3 at HRM4 HUP4 hk0 hk1 hkp t1 hpl z5 f5 hzl ⊢
  go_upto_region 4 with fail
  generalize W3.setCell ⟨p2, 5, none⟩ (.slice (some ⟨g, 0, none⟩) m1 kc) = W4 at HRM4 HUP4 ⊢
  clear hk0 hk1 hkp t1 hpl z5 f5 hzl hbl hbm hkc hkci hm0 hkc0 HRM2 HUP2
  obtain ⟨⟨t0, t1, t2⟩, -, hpl⟩ := HRM4.out.topcells
  have hbox := (HRM4.out.get (b := p2) (.head _)).1
  obtain ⟨⟨z0, z1, z2, z3, z4, z5, z6⟩, ⟨f0, f1, f2, f3, f4, f5, f6⟩, hzl⟩ := verCells hbox
  have hrmv := HRM4.out
  rw [HNL.out] at hrmv
  rw [HND.out] at hrmv
  obtain ⟨gs, cs, gl, cl, e1, e2, c1, c2, -⟩ := hrmv.ver HLT.out HLN.out
  injection e2 with i1 i2 i3
  subst i1
  have hbg := HLT.out.big
  rw [← HNL.out, ← HNX.out] at hbg
  have hc0 : ¬ lc = 0 := by omega
  have hil : nx ≤ lc := by omega
  have hili : (nx : Int) ≤ (lc : Int) := by omega
  have hi0 : (0 : Int) ≤ (nx : Int) := by omega
  have hs5 := heap_setCell_at W4 p2 6 _ _ (.slice (some ⟨gl, 0, none⟩) nx lc) hbox
  obtain ⟨hrm5, hup5⟩ := HRM4.out.set (b := p2) (o' := .cells #[.int .i64 x.gen, .int .i64 x.flushed, .int .i64 x.next, .int .i64 x.low, .int .i64 x.clock, .slice (some ⟨g, 0, none⟩) m1 kc, .slice (some ⟨gl, 0, none⟩) nx lc] 25 (0, 0)) (R' := ((p1, .cells #[.int .i64 x.gen, .int .i64 x.flushed, .int .i64 x.next, .int .i64 x.low, .int .i64 x.clock, .slice s1 m1 d1, .slice s2 nx d2] 25 (0, 0)) :: R)) (.head _) (Upd.cell_only W4 p2 6 (.slice (some ⟨gl, 0, none⟩) nx lc)) hs5 (fun y hy => ⟨.tail _ hy, fun e => by
    rcases List.mem_cons.1 hy with h1 | h1
    · rw [h1] at e; exact HNE.out.1 e.symm
    · exact HNE.out.2 y h1 e⟩)
  have HRM5 := hid hrm5; have HUP5 := hid (HUP4.out.trans hup5 (fun _ _ e => e))
  clear hbox hs5 hrm5 hup5 hrmv e1 i2 i3 c1 c2 t1 t2 z0 z1 z2 z3 z4 z5 f0 f1 f2 f3 f4 f5
  go_upto_region 5 with fail
  generalize W4.setCell ⟨p2, 6, none⟩ (.slice (some ⟨gl, 0, none⟩) nx lc) = W5 at HRM5 HUP5 ⊢
  clear t0 hpl z6 f6 hzl hc0 hil hili hi0 HRM4 HUP4
  go_cut [50] (fun b wx => b = .bool false ∧ Upd (fun _ => False) W5 wx)
  case first =>
    have hHeld : (fun V => V.heap[p2]? = some (.cells #[.int .i64 x.gen, .int .i64 x.flushed, .int .i64 x.next, .int .i64 x.low, .int .i64 x.clock, .slice (some ⟨g, 0, none⟩) m1 kc, .slice (some ⟨gl, 0, none⟩) nx lc] 25 (0, 0)) ∧ V.heap[p1]? = some (.cells #[.int .i64 x.gen, .int .i64 x.flushed, .int .i64 x.next, .int .i64 x.low, .int .i64 x.clock, .slice s1 m1 d1, .slice s2 nx d2] 25 (0, 0)) ∧ V.cell? ⟨p, 1, none⟩ = some (.pointer (some ⟨k.p, 0, none⟩)) ∧ p < V.heap.size) W5.drew := by
      have h1 := HRM5.out.topcells.1.2.1
      simp only [Option.map_some] at h1
      exact ⟨(HRM5.out.get (b := p2) (.head _)).1, (HRM5.out.get (b := p1) (.tail _ (.head _))).1, h1, HRM5.out.topcells.2.2⟩
    have hdr : Upd (fun _ => False) W5 W5.drew := (Upd.refl _ _).drew
    have hrm6 := HRM5.out.quiet hdr
    have hx6 := HV.out.keep (HUP5.out.trans (HRM5.out.toOut hdr) (fun _ _ e => e))
    have hrmv := hrm6
    rw [HNL.out] at hrmv
    rw [HND.out] at hrmv
    obtain ⟨gs, cs, gl', cl, e1, e2, -, -, hver⟩ := hrmv.ver HLT.out HLN.out
    injection e2 with i1 i2 i3
    injection i1 with i1
    injection i1 with i1
    subst i1; subst i3
    rw [HRV.out] at e1
    injection e1 with j1 j2 j3
    injection j1 with j1
    injection j1 with j1
    subst j1; subst j3
    rw [← HM1.out, ← HNX.out] at hver
    have HSV := hid (sameVer_any hver hx6.at (by have := HX.out.2.1; omega))
    rw [sameVerB_iff.2 rfl] at HSV
    clear hver hx6 hrm6 hrmv i2 j2
    refine wp_region_l (fun V => V.heap[p2]? = some (.cells #[.int .i64 x.gen, .int .i64 x.flushed, .int .i64 x.next, .int .i64 x.low, .int .i64 x.clock, .slice (some ⟨g, 0, none⟩) m1 kc, .slice (some ⟨gl, 0, none⟩) nx lc] 25 (0, 0)) ∧ V.heap[p1]? = some (.cells #[.int .i64 x.gen, .int .i64 x.flushed, .int .i64 x.next, .int .i64 x.low, .int .i64 x.clock, .slice s1 m1 d1, .slice s2 nx d2] 25 (0, 0)) ∧ V.cell? ⟨p, 1, none⟩ = some (.pointer (some ⟨k.p, 0, none⟩)) ∧ p < V.heap.size) 13 14 rfl (by kernel_rfl) ?_
    refine' wpAnyL_take 0 [2, 3, 4, 13] (v := _) rfl (by kernel_rfl) (by kernel_rfl) (by kernel_rfl) (by kernel_rfl) (by simp) (fun _ _ _ h => h) (Or.inl ⟨by rfl, ?hy0⟩) (by assumption) ?rest0
    case hy0 => (intro wS hSw; obtain ⟨⟨e0, e1, e2, e3, e4, e5, e6⟩, -, -⟩ := verCells hSw.1; go_simp; (try with_reducible rfl))
    (try simp only [Act.put, List.setIfInBounds_toArray, List.set_cons_zero, List.set_cons_succ])
    refine' wpAnyL_take 1 [2, 3, 4, 13] (v := _) rfl (by kernel_rfl) (by kernel_rfl) (by kernel_rfl) (by kernel_rfl) (by simp) (fun _ _ _ h => h) (Or.inl ⟨by rfl, ?hy1⟩) (by assumption) ?rest1
    case hy1 => (intro wS hSw; obtain ⟨⟨e0, e1, e2, e3, e4, e5, e6⟩, -, -⟩ := verCells hSw.2.1; go_simp; (try with_reducible rfl))
    (try simp only [Act.put, List.setIfInBounds_toArray, List.set_cons_zero, List.set_cons_succ])
    refine wpAnyL_one 2 rfl (by kernel_rfl) (fun K hK => ?_)
    go_simp
    go_at_call 24
    refine HSV.out.mono ?_
    rintro e w6 ⟨rfl, hu6⟩
    have HU6 := hid (hdr.trans hu6 (fun _ _ e => e))
    have hHeld6 : (fun V => V.heap[p2]? = some (.cells #[.int .i64 x.gen, .int .i64 x.flushed, .int .i64 x.next, .int .i64 x.low, .int .i64 x.clock, .slice (some ⟨g, 0, none⟩) m1 kc, .slice (some ⟨gl, 0, none⟩) nx lc] 25 (0, 0)) ∧ V.heap[p1]? = some (.cells #[.int .i64 x.gen, .int .i64 x.flushed, .int .i64 x.next, .int .i64 x.low, .int .i64 x.clock, .slice s1 m1 d1, .slice s2 nx d2] 25 (0, 0)) ∧ V.cell? ⟨p, 1, none⟩ = some (.pointer (some ⟨k.p, 0, none⟩)) ∧ p < V.heap.size) w6 := ⟨hu6.get hHeld.1 (fun e => e), hu6.get hHeld.2.1 (fun e => e), hu6.cell hHeld.2.2.2 hHeld.2.2.1, Nat.lt_of_lt_of_le hHeld.2.2.2 hu6.size⟩
    clear hHeld hu6 hdr
    refine hK.out _ _ (fun _ => hHeld6) ?_
    clear hK K
    (try simp only [Act.put, List.setIfInBounds_toArray, List.set_cons_zero, List.set_cons_succ])
    refine wpAnyL_one 3 rfl (by kernel_rfl) (fun K hK => ?_)
    go_simp
    refine hK.out _ _ (fun _ => hHeld6) ?_
    clear hK K
    (try simp only [Act.put, List.setIfInBounds_toArray, List.set_cons_zero, List.set_cons_succ])
    refine wpAnyL_one 4 rfl (by kernel_rfl) (fun K hK => ?_)
    go_simp
    refine hK.out _ _ (fun _ => hHeld6) ?_
    clear hK K
    (try simp only [Act.put, List.setIfInBounds_toArray, List.set_cons_zero, List.set_cons_succ])
    refine' wpAnyL_take 5 [6, 7, 8, 11, 12, 13] (v := _) rfl (by kernel_rfl) (by kernel_rfl) (by kernel_rfl) (by kernel_rfl) (by simp) (fun _ _ _ h => h) (Or.inl ⟨by rfl, ?hy5⟩) (by assumption) ?rest5
    case hy5 => (intro wS hSw; skip; go_simp; (try with_reducible rfl))
    (try simp only [Act.put, List.setIfInBounds_toArray, List.set_cons_zero, List.set_cons_succ])
    refine' wpAnyL_take 6 [7, 8, 11, 12, 13] (v := _) rfl (by kernel_rfl) (by kernel_rfl) (by kernel_rfl) (by kernel_rfl) (by simp) (fun _ _ _ h => h) (Or.inl ⟨by rfl, ?hy6⟩) (by assumption) ?rest6
    case hy6 => (intro wS hSw; skip; go_simp; (try with_reducible rfl))
    (try simp only [Act.put, List.setIfInBounds_toArray, List.set_cons_zero, List.set_cons_succ])
    refine' wpAnyL_take 7 [8, 11, 12, 13] (v := _) rfl (by kernel_rfl) (by kernel_rfl) (by kernel_rfl) (by kernel_rfl) (by simp) (fun _ _ _ h => h) (Or.inl ⟨by rfl, ?hy7⟩) (by assumption) ?rest7
    case hy7 => (intro wS hSw; skip; go_simp; (try with_reducible rfl))
    (try simp only [Act.put, List.setIfInBounds_toArray, List.set_cons_zero, List.set_cons_succ])
    refine' wpAnyL_take 8 [11, 12, 13] (v := _) rfl (by kernel_rfl) (by kernel_rfl) (by kernel_rfl) (by kernel_rfl) (by simp) (fun _ _ _ h => h) (Or.inl ⟨by rfl, ?hy8⟩) (by assumption) ?rest8
    case hy8 => (intro wS hSw; obtain ⟨-, -, e1, e2⟩ := hSw; go_simp; (try with_reducible rfl))
    (try simp only [Act.put, List.setIfInBounds_toArray, List.set_cons_zero, List.set_cons_succ])
    refine' wpAnyL_take 9 [10, 11, 12, 13] (v := _) rfl (by kernel_rfl) (by kernel_rfl) (by kernel_rfl) (by kernel_rfl) (by simp) (fun _ _ _ h => h) (Or.inl ⟨by rfl, ?hy9⟩) (by assumption) ?rest9
    case hy9 => (intro wS hSw; skip; go_simp; (try with_reducible rfl))
    (try simp only [Act.put, List.setIfInBounds_toArray, List.set_cons_zero, List.set_cons_succ])
    refine' wpAnyL_take 10 [11, 12, 13] (v := _) rfl (by kernel_rfl) (by kernel_rfl) (by kernel_rfl) (by kernel_rfl) (by simp) (fun _ _ _ h => h) (Or.inl ⟨by rfl, ?hy10⟩) (by assumption) ?rest10
    case hy10 => (intro wS hSw; obtain ⟨⟨e0, e1, e2, e3, e4, e5, e6⟩, -, e7⟩ := verCells hSw.2.1; go_simp; (try with_reducible rfl))
    (try simp only [Act.put, List.setIfInBounds_toArray, List.set_cons_zero, List.set_cons_succ])
    have hrm7 := HRM5.out.quiet HU6.out
    have hup7 := HUP5.out.trans (HRM5.out.toOut HU6.out) (fun _ _ e => e)
    have hbk := HB.out.keep hup7
    have HBA := hid (back_any (hrm7.stateOut).1 HLN.out hbk.at.bytes)
    clear hrm7 hup7 hbk
    refine wpAnyL_one 11 rfl (by kernel_rfl) (fun K hK => ?_)
    go_simp
    go_at_call 30
    refine HBA.out.mono ?_
    rintro e w7 ⟨rfl, m, hw7⟩
    have hu7 : Upd (fun _ => False) w6 w7 := by rw [hw7]; exact (Upd.refl _ _).drewN m
    have HU7 := hid (HU6.out.trans hu7 (fun _ _ e => e))
    have hHeld7 : (fun V => V.heap[p2]? = some (.cells #[.int .i64 x.gen, .int .i64 x.flushed, .int .i64 x.next, .int .i64 x.low, .int .i64 x.clock, .slice (some ⟨g, 0, none⟩) m1 kc, .slice (some ⟨gl, 0, none⟩) nx lc] 25 (0, 0)) ∧ V.heap[p1]? = some (.cells #[.int .i64 x.gen, .int .i64 x.flushed, .int .i64 x.next, .int .i64 x.low, .int .i64 x.clock, .slice s1 m1 d1, .slice s2 nx d2] 25 (0, 0)) ∧ V.cell? ⟨p, 1, none⟩ = some (.pointer (some ⟨k.p, 0, none⟩)) ∧ p < V.heap.size) w7 := ⟨hu7.get hHeld6.1 (fun e => e), hu7.get hHeld6.2.1 (fun e => e), hu7.cell hHeld6.2.2.2 hHeld6.2.2.1, Nat.lt_of_lt_of_le hHeld6.2.2.2 hu7.size⟩
    clear hHeld6 hu7 hw7
    refine hK.out _ _ (fun _ => hHeld7) ?_
    clear hK K
    (try simp only [Act.put, List.setIfInBounds_toArray, List.set_cons_zero, List.set_cons_succ])
    refine wpAnyL_one 12 rfl (by kernel_rfl) (fun K hK => ?_)
    go_simp
    refine hK.out _ _ (fun _ => hHeld7) ?_
    clear hK K
    (try simp only [Act.put, List.setIfInBounds_toArray, List.set_cons_zero, List.set_cons_succ])
    refine wpAnyL_one 13 rfl (by kernel_rfl) (fun K hK => ?_)
    go_simp
    refine hK.out _ _ (fun h => absurd rfl h) ?_
    clear hK K
    (try simp only [Act.put, List.setIfInBounds_toArray, List.set_cons_zero, List.set_cons_succ])
    refine wpAnyL_done (by kernel_rfl) ?_ _
    go_wp2
    go_meet
    exact ⟨rfl, HU7.out⟩
  case rest =>
    obtain ⟨rfl, hu6⟩ := hcut
    have HRM6 := hid (HRM5.out.quiet hu6); have HUP6 := hid (HUP5.out.trans (HRM5.out.toOut hu6) (fun _ _ e => e))
    obtain ⟨⟨t0, t1, t2⟩, -, hpl⟩ := HRM6.out.topcells
    simp only [Option.map_some] at t1
    have HWI := hid (wipe_any HRM6.out.stateOut.1)
    clear t0 t2 hu6 HRM5 HUP5
    go_wp2_with fail
    refine HWI.out.mono ?_
    rintro e w7 ⟨rfl, k7, hst7⟩
    obtain ⟨hrm7, hup7⟩ := HRM6.out.state hst7
    have HRM7 := hid (hrm7.sub (R' := ((p1, .cells #[.int .i64 x.gen, .int .i64 x.flushed, .int .i64 x.next, .int .i64 x.low, .int .i64 x.clock, .slice s1 m1 d1, .slice s2 nx d2] 25 (0, 0)) :: R)) (fun y hy => .tail _ hy)); have HUP7 := hid (HUP6.out.trans hup7 (fun _ _ e => e))
    clear hst7 hrm7 hup7 t1 hpl HWI HRM6 HUP6
    go_wp2
    go_loopw [7] (fun iv wr => ∃ i : Nat, iv = .int .i64 i ∧ i ≤ nx ∧ ∃ ds', (ds' : List DK).length = ND ∧ RmIn p B wr (.slice (some ⟨gl, 0, none⟩) NL lc) Ms (.slice da ND dc) (some k7) ds' ((p1, .cells #[.int .i64 x.gen, .int .i64 x.flushed, .int .i64 x.next, .int .i64 x.low, .int .i64 x.clock, .slice s1 m1 d1, .slice s2 nx d2] 25 (0, 0)) :: R) ∧ Upd (OutR p B) w wr ∧ ∀ t, 2 * i ≤ t → ds'[t]? = ds[t]?) (fun iv _ => nx - (intOf iv).toNat)
    case atStart => exact ⟨0, rfl, Nat.zero_le _, ds, HND.out.symm, HRM7.out, HUP7.out, fun _ _ => rfl⟩
    case round =>
      clear HRM7 HUP7
      obtain ⟨i, rfl, hi, ds1, hdl, hrm, hup, hst⟩ := hrel
      have HRM := hid hrm; have HUP := hid hup; have HDL := hid hdl; have HSAME := hid hst
      obtain ⟨wo, rfl⟩ : ∃ wo, wo = wr := ⟨_, rfl⟩
      clear hrm hup hdl hst
      by_cases hin : i < nx
      · have hix : i < x.runs.length := by have := HNX.out; omega
        obtain ⟨k1, k2, hd1, hd2, hl1', hl2', -⟩ := HLT.out.run i hix hix
        rw [← HSAME.out _ (by omega)] at hd1 hd2
        have HLE1 := hid hl1'; have HLE2 := hid hl2'
        obtain ⟨q, hq⟩ : ∃ q, q = 2 * i := ⟨_, rfl⟩
        obtain ⟨q1, hq1⟩ : ∃ q1, q1 = q + 1 := ⟨_, rfl⟩
        rw [← hq] at hd1 hd2
        rw [← hq1] at hd2
        have hqi : 2 * (i : Int) = (q : Int) := by omega
        have hqN : q < ND := by have := HLT.out.dbig; have := HND.out; have := HNX.out; omega
        have hqNi : (q : Int) < (ND : Int) := by omega
        have hqw : IntKind.i64.wrap (q : Int) = (q : Int) := by rw [IntKind.wrap_i64]; omega
        have hq1i : (q : Int) + 1 = (q1 : Int) := by omega
        have hq1N : q1 < ND := by have := HLT.out.dbig; have := HND.out; have := HNX.out; omega
        have hq1Ni : (q1 : Int) < (ND : Int) := by omega
        have hq1w : IntKind.i64.wrap (q1 : Int) = (q1 : Int) := by rw [IntKind.wrap_i64]; omega
        obtain ⟨gd, dcc, ed, hgd, hcd, hain⟩ := HRM.out.deskAt hd1
        injection ed with ed1 ed2 ed3
        subst ed1; subst ed3
        clear ed2
        obtain ⟨gd2, dcc2, ed, -, hcd2, hain2⟩ := HRM.out.deskAt hd2
        injection ed with ed1 ed2 ed3
        injection ed1 with ed1
        injection ed1 with ed1
        subst ed1; subst ed3
        clear ed2
        have hrk := HR.out.keep HUP.out
        rw [HNX.out] at hrk
        obtain ⟨bx, ox, f1, c1, f2, c2, hs2, hd2c, hcl, hB1, hB2⟩ := hrk.run hix
        subst hs2
        have hba1 : ∀ n, Calls Tryz.prog 30 #[.pointer (some ⟨k1.p, 0, none⟩), .slice f1 x.runs[i].first.length c1] (wo.drewN n) fun e w' => e = .returned (.bool true) ∧ ∃ m, w' = (wo.drewN n).drewN m := fun n => back_any (hain.upd ((Upd.refl (fun _ => False) wo).drewN n) (fun _ _ e => e)) hl1' ((hB1.keep (HRM.out.toOut ((Upd.refl (fun _ => False) wo).drewN n))).at.bytes)
        have hba2 : ∀ n, Calls Tryz.prog 30 #[.pointer (some ⟨k2.p, 0, none⟩), .slice f2 x.runs[i].last.length c2] (wo.drewN n) fun e w' => e = .returned (.bool true) ∧ ∃ m, w' = (wo.drewN n).drewN m := fun n => back_any (hain2.upd ((Upd.refl (fun _ => False) wo).drewN n) (fun _ _ e => e)) hl2' ((hB2.keep (HRM.out.toOut ((Upd.refl (fun _ => False) wo).drewN n))).at.bytes)
        obtain ⟨hbx, v0, v1, v2, v3, v4, v5, v6, v7⟩ := hcl _ (Upd.refl _ _)
        have hxc : (i : Int) < (d2 : Int) := by have := HNX.out; omega
        have hin' : (i : Int) < (nx : Int) := by omega
        obtain ⟨P1, hP1⟩ : ∃ n, n = k1.p := ⟨_, rfl⟩
        obtain ⟨P2, hP2⟩ : ∃ n, n = k2.p := ⟨_, rfl⟩
        obtain ⟨n1, hn1⟩ : ∃ n, n = x.runs[i].first.length := ⟨_, rfl⟩
        obtain ⟨n2, hn2⟩ : ∃ n, n = x.runs[i].last.length := ⟨_, rfl⟩
        rw [← hP1] at hba1 hcd
        rw [← hP2] at hba2 hcd2
        rw [← hn1] at hba1 v6
        rw [← hn2] at hba2 v7
        have HBA := hid (show ∀ n a b, (a = Value.pointer (some ⟨P1, 0, none⟩) ∧ b = Value.slice f1 n1 c1) ∨ (a = Value.pointer (some ⟨P2, 0, none⟩) ∧ b = Value.slice f2 n2 c2) → Calls Tryz.prog 30 #[a, b] (wo.drewN n) fun e w' => e = .returned (.bool true) ∧ ∃ m, w' = (wo.drewN n).drewN m from by
          rintro n a b (⟨rfl, rfl⟩ | ⟨rfl, rfl⟩)
          · exact hba1 n
          · exact hba2 n)
        obtain ⟨⟨t0, t1, t2⟩, -, hpl⟩ := HRM.out.topcells
        obtain ⟨⟨z0, z1, z2, z3, z4, z5, z6⟩, -, hzl⟩ := verCells (HRM.out.get (b := p1) (.head _)).1
        have HD1 := hid hd1; have HD2 := hid hd2; have HPP := hid (And.intro hP1 hP2); have HQ := hid (And.intro hq hq1)
        clear hba1 hba2 hcl hB1 hB2 hrk hl1' hl2' hain hain2 v0 v1 v2 v3 v4 v5 t0 t1 z0 z1 z2 z3 z4 z5 hP1 hP2 hn1 hn2 hd1 hd2 hq hq1
        go_upto_region 11 with fail
        go_quiet ((go_at_call 30; exact Calls.quiet_of (HBA.out _ _ _ (by first | exact .inl ⟨rfl, rfl⟩ | exact .inr ⟨rfl, rfl⟩))))
        revert nq
        intro q0
        have hu8 : Upd (fun _ => False) wo (wo.drewN q0) := (Upd.refl _ _).drewN q0
        have HRM8 := hid (HRM.out.quiet hu8); have HUP8 := hid (HUP.out.trans (HRM.out.toOut hu8) (fun _ _ e => e))
        clear v6 v7 z6 hzl hpl t2 hcd hcd2 hgd hbx HBA hu8 HRM HUP
        go_upto_region 13 with fail
        generalize wo.drewN q0 = W8 at HRM8 HUP8 ⊢
        obtain ⟨gd', dcc', ed, hgd, hcd, hain⟩ := HRM8.out.deskAt HD1.out
        injection ed with ed1 ed2 ed3
        injection ed1 with ed1
        injection ed1 with ed1
        subst ed1; subst ed3
        clear ed2
        have HWI := hid (wipe_any hain)
        rw [← HPP.out.1] at hcd HWI
        obtain ⟨⟨t0, t1, t2⟩, -, hpl⟩ := HRM8.out.topcells
        clear t0 t1 hain
        go_wp2_with fail
        refine HWI.out.mono ?_
        rintro e w9 ⟨rfl, k1', hst⟩
        obtain ⟨rm9, up9⟩ := HRM8.out.desk HD1.out hst
        have Hrm9 := hid rm9; have Hup9 := hid (HUP8.out.trans up9 (fun _ _ e => e))
        clear hst rm9 up9 hgd hcd t2 hpl HWI
        have HD3 := hid (show (ds1.set q k1')[q1]? = some k2 from by rw [List.getElem?_set_ne (by have := HQ.out.2; omega)]; exact HD2.out)
        clear HRM8 HUP8
        obtain ⟨gd', dcc', ed, hgd, hcd, hain⟩ := Hrm9.out.deskAt HD3.out
        injection ed with ed1 ed2 ed3
        injection ed1 with ed1
        injection ed1 with ed1
        subst ed1; subst ed3
        clear ed2
        have HWI := hid (wipe_any hain)
        rw [← HPP.out.2] at hcd HWI
        obtain ⟨⟨t0, t1, t2⟩, -, hpl⟩ := Hrm9.out.topcells
        clear t0 t1 hain
        go_wp2_with fail
        refine HWI.out.mono ?_
        rintro e w10 ⟨rfl, k2', hst⟩
        obtain ⟨rm10, up10⟩ := Hrm9.out.desk HD3.out hst
        have Hrm10 := hid rm10; have Hup10 := hid (Hup9.out.trans up10 (fun _ _ e => e))
        clear hst rm10 up10 hgd hcd t2 hpl HWI
        clear Hrm9 Hup9
        go_wp2
        go_roundw
        case rel => exact ⟨i + 1, by go_num, by omega, (ds1.set q k1').set q1 k2', by rw [List.length_set, List.length_set]; exact HDL.out, Hrm10.out, Hup10.out, fun t ht => by
          rw [List.getElem?_set_ne (by have := HQ.out; omega), List.getElem?_set_ne (by have := HQ.out; omega)]
          exact HSAME.out t (by omega)⟩
        case measure => simp [intOf]; omega
      · skip
        obtain rfl : i = nx := by omega
        clear HSAME
        go_wp2
        go_loopw [8] (fun iv wr => ∃ t : Nat, iv = .int .i64 t ∧ i ≤ t ∧ t ≤ NL ∧ RmIn p B wr (.slice (some ⟨gl, 0, none⟩) NL lc) Ms (.slice da ND dc) (some k7) ds1 ((p1, .cells #[.int .i64 x.gen, .int .i64 x.flushed, .int .i64 x.next, .int .i64 x.low, .int .i64 x.clock, .slice s1 m1 d1, .slice s2 i d2] 25 (0, 0)) :: R) ∧ Upd (OutR p B) w wr) (fun iv _ => NL - (intOf iv).toNat)
        case atStart => exact ⟨i, rfl, Nat.le_refl _, by have := HLT.out.big; have := HNL.out; have := HNX.out; omega, HRM.out, HUP.out⟩
        case round =>
          clear HRM HUP
          obtain ⟨t, rfl, hit, htN, hrm, hup⟩ := hrel
          have HRM := hid hrm; have HUP := hid hup
          obtain ⟨⟨t0, t1, t2⟩, -, hpl⟩ := hrm.topcells
          clear hup t1 t2
          by_cases hlt : t < NL
          · have hmk := HLT.out.mark t (by have := HNL.out; omega) (by have := HNX.out; omega)
            obtain ⟨e0, e1, e2, e3, e4, e5, e6, e7, e8⟩ := hrm.runAt hmk
            simp only [markMV, markM] at e0 e1 e2 e3 e4 e5 e6 e7
            have hlti : (t : Int) < (NL : Int) := by omega
            have hltc : (t : Int) < (lc : Int) := by omega
            have hu9 := (Upd.refl (fun _ => False) wr).alloc (.cells #[.int .i64 (-500 - (t : Int)), .int .i64 0, .int .i64 0, .int .i64 0, .int .i64 0, .int .i64 0, .slice none 0 0, .slice none 0 0] 48)
            have HU9 := hid hu9
            have hne : ((-500 - (t : Int)) != (-500 - (t : Int))) = false := by simp
            clear hrm hmk hu9
            go_wp2
            go_roundw
            case rel => exact ⟨t + 1, by go_num, by omega, by omega, HRM.out.quiet HU9.out, HUP.out.trans (HRM.out.toOut HU9.out) (fun _ _ e => e)⟩
            case measure => simp [intOf]; omega
          · obtain rfl : t = NL := by omega
            clear hrm
            go_wp2
            go_ret
            refine ⟨rfl, k7, ds1, ?_⟩
            rw [← HNL.out, ← HND.out]
            exact ⟨HRM.out.sub (fun y hy => .tail _ hy), HUP.out, HDL.out⟩

end Go.Proofs.YtgaidmohdhaonaaGreatDoor

namespace Go.Proofs.YtgaidmohdhaonaaGreatDoor
set_option linter.unusedVariables false
set_option linter.unusedSimpArgs false
set_option linter.unnecessarySimpa false
set_option linter.unusedSectionVars false
open Go Go.RowKit

def encRR (x : VerA) : List UInt8 := if okA x then encodeB x else []

theorem checkA_inR (x : VerA) : 0 ≤ checkA x ∧ checkA x ≤ 101 := by
  unfold checkA; split <;> omega

theorem encR_all {w : World} {v : Value} {x : VerA} (hT : TabIn w) (hv : VerAt w v x) (hl : ∀ r ∈ x.runs, r.first.length ≤ 140737488351232 ∧ r.last.length ≤ 140737488351232) :
    Calls Tryz.prog 17 #[v] w fun e w' => ∃ v', e = .returned (.tuple #[v', .int .i64 (checkA x)]) ∧ NewB w w' v' (encRR x) := by
  by_cases hb : okA x = true
  · refine (encode_any hT hv hb).mono ?_
    rintro e w' ⟨v', rfl, h⟩
    refine ⟨v', by unfold checkA; rw [if_pos hb], ?_⟩
    unfold encRR
    rw [if_pos hb]; exact h
  · have hb := eq_false_of_ne_true hb
    refine (encode_bad hv hl hb).mono ?_
    rintro e w' ⟨rfl, h⟩
    refine ⟨_, by unfold checkA; rw [hb]; rfl, ?_⟩
    unfold encRR
    rw [hb]
    exact ⟨.inl ⟨rfl, rfl⟩, (fun k e => by cases e), h⟩

theorem refEncR_all {w : World} {v : Value} {x : VerA} (hv : VerAt w v x) (hl : ∀ r ∈ x.runs, r.first.length ≤ 140737488351232 ∧ r.last.length ≤ 140737488351232) :
    Calls Tryz.prog 83 #[v] w fun e w' => ∃ v', e = .returned (.tuple #[v', .int .i64 (checkA x)]) ∧ NewB w w' v' (encRR x) := by
  by_cases hb : okA x = true
  · refine (refEncode_any hv hb).mono ?_
    rintro e w' ⟨v', rfl, h⟩
    refine ⟨v', by unfold checkA; rw [if_pos hb], ?_⟩
    unfold encRR
    rw [if_pos hb]; exact h
  · have hb := eq_false_of_ne_true hb
    refine (refEncode_bad hv hl hb).mono ?_
    rintro e w' ⟨rfl, h⟩
    refine ⟨_, by unfold checkA; rw [hb]; rfl, ?_⟩
    unfold encRR
    rw [hb]
    exact ⟨.inl ⟨rfl, rfl⟩, (fun k e => by cases e), h⟩

/-- Blocks that were made since are boxes beside. -/
theorem RmIn.adds {p B : Nat} {w w' : World} {lv dv : Value} {Ms : List MV} {st : Option DK} {ds : List DK} {R R' : List (Nat × Obj)} (h : RmIn p B w lv Ms dv st ds R) (hu : Upd (fun _ => False) w w') (hn : ∀ r ∈ R', w'.heap[r.1]? = some r.2 ∧ w.heap.size ≤ r.1) : RmIn p B w' lv Ms dv st ds (R' ++ R) := by
  obtain ⟨lab, h⟩ := h
  refine ⟨fun b => if b < w.heap.size then lab b else 0, hu.get h.top (fun e => e), SRow.upd h.row hu (fun _ _ e => e), SRow.upd h.dsk hu (fun _ _ e => e), fun k hk => (h.sin k hk).upd hu (fun _ _ e => e), fun i k hk => (h.din i k hk).upd hu (fun _ _ e => e), h.hp, Nat.le_trans h.hB hu.size, ?_, ?_, ?_, ?_, ?_⟩
  · intro b e
    rw [if_pos (h.row.lt b e)]
    exact h.lab1 b e
  · intro b e
    rw [if_pos (h.dsk.lt b e)]
    exact h.lab2 b e
  · intro k2 hk2 b e
    rw [if_pos (h.slt hk2 e)]
    exact h.lab3 k2 hk2 b e
  · intro j k2 hk2 b e
    rw [if_pos (h.dlt hk2 e)]
    exact h.lab4 j k2 hk2 b e
  · intro r hr
    rcases List.mem_append.1 hr with hr | hr
    · obtain ⟨h1, h2⟩ := hn r hr
      exact ⟨h1, if_neg (by omega), Nat.le_trans h.hB h2⟩
    · obtain ⟨b1, b2, b3⟩ := h.box r hr
      refine ⟨hu.get b1 (fun e => e), ?_, b3⟩
      show (if r.1 < w.heap.size then lab r.1 else 0) = 0
      rw [if_pos (lt_of_heap b1)]
      exact b2

theorem NewB.boxes {w w' : World} {v : Value} {bs : List UInt8} (h : NewB w w' v bs) : ∃ R' : List (Nat × Obj), (∀ r ∈ R', w'.heap[r.1]? = some r.2 ∧ w.heap.size ≤ r.1) ∧ ∀ W : World, (∀ r ∈ R', W.heap[r.1]? = some r.2) → DataIs W v bs := by
  rcases h.data with ⟨rfl, rfl⟩ | ⟨g, cap, cur, rfl, hg, h1, h2, h3, h4⟩
  · exact ⟨[], (fun r hr => by cases hr), fun W _ => .inl ⟨rfl, rfl⟩⟩
  · refine ⟨[(g, .cells cur 5 (0, 0))], fun r hr => ?_, fun W hW => .inr ⟨g, cap, cur, rfl, hW _ (.head _), h1, h2, h3, h4⟩⟩
    rw [List.mem_singleton] at hr
    subst hr
    exact ⟨hg, h.new g rfl⟩

set_option maxRecDepth 100000 in
set_option maxHeartbeats 12800000 in
theorem checks_any {p B : Nat} {w : World} {lv dv v : Value} {Ms : List MV} {st : Option DK} {ds : List DK} {R : List (Nat × Obj)} {x : VerA} (hT : TabIn w) (hp0 : p ≠ 0) (h : RmIn p B w lv Ms dv st ds R) (hv : VerK p B w v x) (hx : VerSm x) (hms : Ms.length ≤ 3000000000000) (hds : ds.length ≤ 4000000000000) :
    Calls Tryz.prog 27 #[.pointer (some ⟨p, 0, none⟩), v] w fun e w' => e = .returned (.bool true) ∧ ∃ lv Ms dv st ds, RmIn p B w' lv Ms dv st ds R ∧ Upd (OutR p B) w w' ∧ (Ms : List MV).length ≤ 3000000000000 ∧ (ds : List DK).length ≤ 4000000000000 := by
  have HV := hid hv
  obtain ⟨s1, d1, s2, d2, rfl, -, -⟩ := hv.open
  have HX := hid hx; have HT := hid hT; have HRM0 := hid h; have HBD := hid (And.intro hms hds)
  have HLK := hid (show ∀ r ∈ x.runs, r.first.length ≤ 140737488351232 ∧ r.last.length ≤ 140737488351232 from hx.2.2)
  have H0 := hid (show ¬ OutR p B 0 from fun e => by
    rcases e with e | e
    · exact hp0 e.symm
    · obtain ⟨lab, h⟩ := h
      have := h.hp; omega)
  obtain ⟨m1, hm1⟩ : ∃ m, m = x.state.length := ⟨_, rfl⟩
  obtain ⟨nx, hnx⟩ : ∃ m, m = x.runs.length := ⟨_, rfl⟩
  rw [← hm1, ← hnx] at HV ⊢
  obtain ⟨ha1, hua1⟩ := h.push (.cells #[.int .i64 x.gen, .int .i64 x.flushed, .int .i64 x.next, .int .i64 x.low, .int .i64 x.clock, .slice s1 m1 d1, .slice s2 nx d2] 25)
  clear hv hx h hm1 hnx hms hds hT
  go_enter Tryz.func27, Tryz.ntmps27
  go_upto_region 1 with fail
  obtain ⟨p1, hp1⟩ : ∃ p, p = w.heap.size := ⟨_, rfl⟩
  rw [← hp1] at ha1
  rw [← hp1]
  have HRM := hid ha1; have HUP := hid hua1
  generalize w.alloc (.cells #[.int .i64 x.gen, .int .i64 x.flushed, .int .i64 x.next, .int .i64 x.low, .int .i64 x.clock, .slice s1 m1 d1, .slice s2 nx d2] 25) = W1 at HRM HUP ⊢
  clear ha1 hua1 hp1
  have HLY := hid (lay_any HRM.out (HV.out.keep HUP.out) HX.out HBD.out.1 HBD.out.2)
  obtain ⟨⟨z0, z1, z2, z3, z4, z5, z6⟩, -, hzl⟩ := verCells (HRM.out.get (b := p1) (.head _)).1
  go_wp2_with fail
  refine HLY.out.mono ?_
  rintro e W2 ⟨v2, lv2, Ms2, dv2, k2, ds2, rfl, hrm2, hlt2, hln2, hup2, hva2, hms2, hds2⟩
  have HRM2 := hid hrm2; have HLT2 := hid hlt2; have HLN2 := hid hln2; have HUP2 := hid (HUP.out.trans hup2 (fun _ _ e => e)); have HBD2 := hid (And.intro hms2 hds2)
  have HCK := hid (verCheck_any hva2 HLK.out)
  clear hrm2 hlt2 hln2 hup2 hva2 hms2 hds2 z0 z1 z2 z3 z4 z5 z6 hzl HLY HRM HUP HBD
  go_wp2_with fail
  refine HCK.out.mono ?_
  rintro e W3 ⟨rfl, hu3⟩
  have HRM3 := hid (HRM2.out.quiet hu3); have HUP3 := hid (HUP2.out.trans (HRM2.out.toOut hu3) (fun _ _ e => e))
  clear hu3 HCK HRM2 HUP2
  obtain ⟨ck, hck⟩ : ∃ c, c = checkA x := ⟨_, rfl⟩
  rw [← hck]
  have HCB := hid (show 0 ≤ ck ∧ ck ≤ 101 from by rw [hck]; exact checkA_inR x)
  have HCE := hid hck
  clear hck
  go_upto_region 2 with fail
  go_cut [24] (fun b wx => b = .bool false ∧ ∃ lv Ms dv st ds, RmIn p B wx lv Ms dv st ds ((p1, .cells #[.int .i64 x.gen, .int .i64 x.flushed, .int .i64 x.next, .int .i64 x.low, .int .i64 x.clock, .slice s1 m1 d1, .slice s2 nx d2] 25 (0, 0)) :: R) ∧ Upd (OutR p B) w wx ∧ (Ms : List MV).length ≤ 3000000000000 ∧ (ds : List DK).length ≤ 4000000000000)
  case first =>
    have hHeld : (fun V => V.heap[p1]? = some (.cells #[.int .i64 x.gen, .int .i64 x.flushed, .int .i64 x.next, .int .i64 x.low, .int .i64 x.clock, .slice s1 m1 d1, .slice s2 nx d2] 25 (0, 0))) W3.drew := (HRM3.out.get (b := p1) (.head _)).1
    have hdr : Upd (fun _ => False) W3 W3.drew := (Upd.refl _ _).drew
    have HDR := hid hdr
    have HRC := hid (refCheck10_any (HV.out.keep (HUP3.out.trans (HRM3.out.toOut hdr) (fun _ _ e => e))).at HLK.out)
    rw [← HCE.out] at HRC
    clear hdr
    refine wp_region_l (fun V => V.heap[p1]? = some (.cells #[.int .i64 x.gen, .int .i64 x.flushed, .int .i64 x.next, .int .i64 x.low, .int .i64 x.clock, .slice s1 m1 d1, .slice s2 nx d2] 25 (0, 0))) 10 11 rfl (by kernel_rfl) ?_
    refine' wpAnyL_take 0 [1, 4, 5, 10] (v := _) rfl (by kernel_rfl) (by kernel_rfl) (by kernel_rfl) (by kernel_rfl) (by simp) (fun _ _ _ h => h) (Or.inl ⟨by rfl, ?hy0⟩) (by assumption) ?rest0
    case hy0 => (intro wS hSw; skip; go_simp; (try with_reducible rfl))
    (try simp only [Act.put, List.setIfInBounds_toArray, List.set_cons_zero, List.set_cons_succ])
    refine' wpAnyL_take 2 [3, 4, 5, 10] (v := _) rfl (by kernel_rfl) (by kernel_rfl) (by kernel_rfl) (by kernel_rfl) (by simp) (fun _ _ _ h => h) (Or.inl ⟨by rfl, ?hy2⟩) (by assumption) ?rest2
    case hy2 => (intro wS hSw; obtain ⟨⟨e0, e1, e2, e3, e4, e5, e6⟩, -, -⟩ := verCells hSw; go_simp; (try with_reducible rfl))
    (try simp only [Act.put, List.setIfInBounds_toArray, List.set_cons_zero, List.set_cons_succ])
    refine wpAnyL_one 1 rfl (by kernel_rfl) (fun K hK => ?_)
    go_simp
    go_at_call 13
    refine (lawNum_any _ _ (by have := HCB.out; omega)).mono ?_
    rintro e W ⟨rfl, hww⟩
    obtain rfl := hww.symm
    refine hK.out _ _ (fun _ => hHeld) ?_
    clear hK K
    (try simp only [Act.put, List.setIfInBounds_toArray, List.set_cons_zero, List.set_cons_succ])
    refine wpAnyL_one 3 rfl (by kernel_rfl) (fun K hK => ?_)
    go_simp
    go_at_call 10
    refine HRC.out.mono ?_
    rintro e W4 ⟨rfl, hu4⟩
    have HU4 := hid (HDR.out.trans hu4 (fun _ _ e => e))
    have hHeld4 : (fun V => V.heap[p1]? = some (.cells #[.int .i64 x.gen, .int .i64 x.flushed, .int .i64 x.next, .int .i64 x.low, .int .i64 x.clock, .slice s1 m1 d1, .slice s2 nx d2] 25 (0, 0))) W4 := hu4.get hHeld (fun e => e)
    clear hHeld hu4
    refine hK.out _ _ (fun _ => hHeld4) ?_
    clear hK K
    (try simp only [Act.put, List.setIfInBounds_toArray, List.set_cons_zero, List.set_cons_succ])
    refine wpAnyL_one 4 rfl (by kernel_rfl) (fun K hK => ?_)
    go_simp
    refine hK.out _ _ (fun _ => hHeld4) ?_
    clear hK K
    (try simp only [Act.put, List.setIfInBounds_toArray, List.set_cons_zero, List.set_cons_succ])
    refine wpAnyL_one 5 rfl (by kernel_rfl) (fun K hK => ?_)
    go_simp
    refine hK.out _ _ (fun _ => hHeld4) ?_
    clear hK K
    (try simp only [Act.put, List.setIfInBounds_toArray, List.set_cons_zero, List.set_cons_succ])
    refine' wpAnyL_take 6 [8, 9, 10] (v := _) rfl (by kernel_rfl) (by kernel_rfl) (by kernel_rfl) (by kernel_rfl) (by simp) (fun _ _ _ h => h) (Or.inl ⟨by rfl, ?hy6⟩) (by assumption) ?rest6
    case hy6 => (intro wS hSw; skip; go_simp; (try with_reducible rfl))
    (try simp only [Act.put, List.setIfInBounds_toArray, List.set_cons_zero, List.set_cons_succ])
    refine' wpAnyL_take 7 [8, 9, 10] (v := _) rfl (by kernel_rfl) (by kernel_rfl) (by kernel_rfl) (by kernel_rfl) (by simp) (fun _ _ _ h => h) (Or.inl ⟨by rfl, ?hy7⟩) (by assumption) ?rest7
    case hy7 => (intro wS hSw; obtain ⟨⟨e0, e1, e2, e3, e4, e5, e6⟩, -, -⟩ := verCells hSw; go_simp; (try with_reducible rfl))
    (try simp only [Act.put, List.setIfInBounds_toArray, List.set_cons_zero, List.set_cons_succ])
    have hrm4 := HRM3.out.quiet HU4.out
    have hup4 := HUP3.out.trans (HRM3.out.toOut HU4.out) (fun _ _ e => e)
    have HSD := hid (stand_any hrm4 HLT2.out HLN2.out (HV.out.keep hup4) HX.out HBD2.out.1 HBD2.out.2)
    have HUP4 := hid hup4
    clear hrm4 hup4
    refine wpAnyL_one 8 rfl (by kernel_rfl) (fun K hK => ?_)
    go_simp
    go_at_call 82
    refine HSD.out.mono ?_
    rintro e W5 ⟨rfl, k5, ds5, hrm5, hup5, hdl5⟩
    have HRM5 := hid hrm5; have HUP5 := hid (HUP4.out.trans hup5 (fun _ _ e => e)); have HDL5 := hid hdl5
    have hHeld5 : (fun V => V.heap[p1]? = some (.cells #[.int .i64 x.gen, .int .i64 x.flushed, .int .i64 x.next, .int .i64 x.low, .int .i64 x.clock, .slice s1 m1 d1, .slice s2 nx d2] 25 (0, 0))) W5 := (hrm5.get (b := p1) (.head _)).1
    clear hHeld4 hrm5 hup5 hdl5
    refine hK.out _ _ (fun _ => hHeld5) ?_
    clear hK K
    (try simp only [Act.put, List.setIfInBounds_toArray, List.set_cons_zero, List.set_cons_succ])
    refine wpAnyL_one 9 rfl (by kernel_rfl) (fun K hK => ?_)
    go_simp
    refine hK.out _ _ (fun _ => hHeld5) ?_
    clear hK K
    (try simp only [Act.put, List.setIfInBounds_toArray, List.set_cons_zero, List.set_cons_succ])
    refine wpAnyL_one 10 rfl (by kernel_rfl) (fun K hK => ?_)
    go_simp
    refine hK.out _ _ (fun h => absurd rfl h) ?_
    clear hK K
    (try simp only [Act.put, List.setIfInBounds_toArray, List.set_cons_zero, List.set_cons_succ])
    refine wpAnyL_done (by kernel_rfl) ?_ _
    go_wp2
    go_meet
    exact ⟨rfl, _, _, _, _, _, HRM5.out, HUP5.out, HBD2.out.1, by rw [HDL5.out]; exact HBD2.out.2⟩
  case rest =>
    obtain ⟨rfl, lv, Ms, dv, st, ds, hrm4, hup4, hms4, hds4⟩ := hcut
    have HRM4 := hid hrm4; have HUP4 := hid hup4
    clear hrm4 hup4 HRM3 HUP3 HLT2 HLN2 HBD2
    have HLY := hid (lay_any HRM4.out (HV.out.keep HUP4.out) HX.out hms4 hds4)
    obtain ⟨⟨z0, z1, z2, z3, z4, z5, z6⟩, -, hzl⟩ := verCells (HRM4.out.get (b := p1) (.head _)).1
    clear hms4 hds4
    go_wp2_with fail
    refine HLY.out.mono ?_
    rintro e W5 ⟨v5, lv5, Ms5, dv5, k5, ds5, rfl, hrm5, hlt5, hln5, hup5, hva5, hms5, hds5⟩
    have HRM5 := hid hrm5; have HLT5 := hid hlt5; have HLN5 := hid hln5; have HUP5 := hid (HUP4.out.trans hup5 (fun _ _ e => e)); have HBD5 := hid (And.intro hms5 hds5)
    have HEN := hid (encR_all (HT.out.upd HUP5.out H0.out) hva5 HLK.out)
    clear hrm5 hlt5 hln5 hup5 hva5 hms5 hds5 z0 z1 z2 z3 z4 z5 z6 hzl HLY HRM4 HUP4
    rw [← HCE.out] at HEN
    go_wp2_with fail
    refine HEN.out.mono ?_
    rintro e W6 ⟨v6, rfl, hn6⟩
    obtain ⟨R6, hR6, hD6⟩ := hn6.boxes
    have HRM6 := hid (HRM5.out.adds hn6.upd hR6); have HUP6 := hid (HUP5.out.trans (HRM5.out.toOut hn6.upd) (fun _ _ e => e)); have HD6 := hid hD6
    clear hn6 hR6 hD6 HEN HRM5 HUP5
    have HEN := hid (refEncR_all (HV.out.keep HUP6.out).at HLK.out)
    rw [← HCE.out] at HEN
    obtain ⟨⟨z0, z1, z2, z3, z4, z5, z6⟩, -, hzl⟩ := verCells (HRM6.out.get (b := p1) (List.mem_append_right _ (.head _))).1
    go_wp2_with fail
    refine HEN.out.mono ?_
    rintro e W7 ⟨v7, rfl, hn7⟩
    obtain ⟨R7, hR7, hD7⟩ := hn7.boxes
    have HRM7 := hid (HRM6.out.adds hn7.upd hR7); have HUP7 := hid (HUP6.out.trans (HRM6.out.toOut hn7.upd) (fun _ _ e => e)); have HD7 := hid hD7
    clear hn7 hR7 hD7 HEN HRM6 HUP6 z0 z1 z2 z3 z4 z5 z6 hzl
    have HSD := hid (stand_any HRM7.out HLT5.out HLN5.out (HV.out.keep HUP7.out) HX.out HBD5.out.1 HBD5.out.2)
    obtain ⟨⟨z0, z1, z2, z3, z4, z5, z6⟩, -, hzl⟩ := verCells (HRM7.out.get (b := p1) (List.mem_append_right _ (List.mem_append_right _ (.head _)))).1
    go_wp2_with fail
    refine HSD.out.mono ?_
    rintro e W8 ⟨rfl, k8, ds8, hrm8, hup8, hdl8⟩
    have HRM8 := hid hrm8; have HUP8 := hid (HUP7.out.trans hup8 (fun _ _ e => e)); have HDL8 := hid hdl8
    clear hrm8 hup8 hdl8 HSD HRM7 HUP7 z0 z1 z2 z3 z4 z5 z6 hzl
    go_wp2_with fail
    refine (lawNum_any _ _ (by have := HCB.out; omega)).mono ?_
    rintro e W ⟨rfl, hww⟩
    obtain rfl := hww.symm
    have hd6 := HD6.out W8 (fun r hr => (HRM8.out.get (b := r.1) (o := r.2) (List.mem_append_right _ (List.mem_append_left _ hr))).1)
    have hd7 := HD7.out W8 (fun r hr => (HRM8.out.get (b := r.1) (o := r.2) (List.mem_append_left _ hr)).1)
    have HSM := hid (lawSame_any hd6.bat hd7.bat)
    rw [decide_eq_true rfl] at HSM
    clear hd6 hd7
    go_wp2_with fail
    refine HSM.out.mono ?_
    rintro e W ⟨rfl, hww⟩
    obtain rfl := hww.symm
    go_wp2
    go_ret
    exact ⟨rfl, _, _, _, _, _, HRM8.out.sub (fun y hy => List.mem_append_right _ (List.mem_append_right _ (.tail _ hy))), HUP8.out, HBD5.out.1, by rw [HDL8.out]; exact HBD5.out.2⟩

end Go.Proofs.YtgaidmohdhaonaaGreatDoor
