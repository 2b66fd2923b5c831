/-
  stratalaw10.Room.Lay, walked.
-/
import Derived.Test.YtgaidmohdhaonaaGreatDoorSM
import Derived.StillTailTactics
namespace Go.Proofs.YtgaidmohdhaonaaGreatDoor
set_option linter.unusedVariables false
set_option linter.unusedSimpArgs false
set_option linter.unnecessarySimpa false
set_option linter.unusedSectionVars false
open Go Go.RowKit

/-- What a version may be to be laid. -/
def VerSm (x : VerA) : Prop := x.state.length ≤ 140737488351300 ∧ x.runs.length * 96 ≤ 140737488351232 ∧ ∀ r ∈ x.runs, r.first.length ≤ 140737488351232 ∧ r.last.length ≤ 140737488351232

def lenDesks (p : Nat) (w : World) : Nat := match w.cell? ⟨p, 2, none⟩ with
  | some v => lenOf v
  | none => 0

section
variable {p B : Nat} {w w' : World} {lv dv : Value} {Ms : List MV} {st : Option DK} {ds : List DK} {R : List (Nat × Obj)}

theorem RmIn.lenDesks (h : RmIn p B w lv Ms dv st ds R) : lenDesks p w = ds.length := by
  have h1 := h.topcells.1.2.2
  obtain ⟨lab, h⟩ := h
  obtain ⟨ao, c, e, -⟩ := h.dsk.slice
  unfold Go.Proofs.YtgaidmohdhaonaaGreatDoor.lenDesks
  rw [h1, e]
  rfl
theorem RmIn.shapes (h : RmIn p B w lv Ms dv st ds R) : (∃ la lc, lv = .slice la Ms.length lc ∧ Ms.length ≤ lc ∧ lc ≤ 9223372036854775807) ∧ ∃ da dc, dv = .slice da ds.length dc ∧ ds.length ≤ dc ∧ dc ≤ 9223372036854775807 := by
  obtain ⟨lab, h⟩ := h
  obtain ⟨ao, c, e, h1, h2, -⟩ := h.row.slice
  obtain ⟨bo, c', e', h1', h2', -⟩ := h.dsk.slice
  exact ⟨⟨ao, c, e, h1, h2⟩, bo, c', e', h1', h2'⟩
/-- Where a desk is told. -/
theorem RmIn.deskAt {i : Nat} {k : DK} (h : RmIn p B w lv Ms dv st ds R) (hi : ds[i]? = some k) : ∃ gd dc, dv = .slice (some ⟨gd, 0, none⟩) ds.length dc ∧ gd < w.heap.size ∧ w.cell? ⟨gd, i, none⟩ = some (.pointer (some ⟨k.p, 0, none⟩)) ∧ k.In w := by
  obtain ⟨lab, h⟩ := h
  have hu : (ds.map DK.ptr)[i]? = some k.ptr := by rw [List.getElem?_map, hi]; rfl
  obtain ⟨gd, dc, e, h1, h2⟩ := SRow.cell h.dsk hu
  exact ⟨gd, dc, e, h1, h2, h.din i k hi⟩
theorem RmIn.deskOut {i : Nat} {k : DK} (h : RmIn p B w lv Ms dv st ds R) (hi : ds[i]? = some k) : ∀ b, k.own b → OutR p B b := by
  obtain ⟨lab, h⟩ := h
  exact fun b e => .inr (h.lab4 i k hi b e).2
theorem RmIn.stateOut {k : DK} (h : RmIn p B w lv Ms dv (some k) ds R) : k.In w ∧ ∀ b, k.own b → OutR p B b := by
  obtain ⟨lab, h⟩ := h
  exact ⟨h.sin k rfl, fun b e => .inr (h.lab3 k rfl b e).2⟩
theorem RmIn.toOut (h : RmIn p B w lv Ms dv st ds R) (hu : Upd (fun _ => False) w w') : Upd (OutR p B) w w' := hu.mono (fun _ _ e => e.elim)
end

set_option maxRecDepth 100000 in
set_option maxHeartbeats 12800000 in
theorem lay_any {p B : Nat} {w : World} {lv dv v : Value} {Ms : List MV} {st : Option DK} {ds : List DK} {R : List (Nat × Obj)} {x : VerA} (h : RmIn p B w lv Ms dv st ds R) (hv : VerK p B w v x) (hx : VerSm x) (hms : Ms.length ≤ 3000000000000) (hds : ds.length ≤ 4000000000000) :
    Calls Tryz.prog 81 #[.pointer (some ⟨p, 0, none⟩), v] w fun e w' => ∃ v' lv' Ms' dv' k' ds', e = .returned v' ∧ RmIn p B w' lv' Ms' dv' (some k') ds' R ∧ LaidTo x.runs.length x.runs Ms' ds' ∧ k'.Lent x.state ∧ Upd (OutR p B) w w' ∧ VerAt w' v' x ∧ Ms'.length ≤ 3000000000000 ∧ ds'.length ≤ 4000000000000 := by
  obtain ⟨s1, d1, s2, d2, rfl, hb, hr⟩ := hv.open
  have HB := hid hb; have HR := hid hr; have HX := hid hx; have HRM0 := hid h
  obtain ⟨m1, hm1⟩ : ∃ m, m = x.state.length := ⟨_, rfl⟩
  obtain ⟨nx, hnx⟩ : ∃ m, m = x.runs.length := ⟨_, rfl⟩
  have hnb : nx * 96 ≤ 140737488351232 := by rw [hnx]; exact hx.2.1
  rw [← hm1] at HB ⊢
  rw [← hnx] at HR ⊢
  have HM1 := hid hm1; have HNX := hid hnx; have HDS := hid hds
  obtain ⟨ha1, hua1⟩ := h.push (.cells #[.int .i64 x.gen, .int .i64 x.flushed, .int .i64 x.next, .int .i64 x.low, .int .i64 x.clock, .slice s1 m1 d1, .slice s2 nx d2] 25)
  obtain ⟨ha2, hua2⟩ := ha1.push (.cells #[.int .i64 0, .int .i64 0, .int .i64 0, .int .i64 0, .int .i64 0, .slice none 0 0, .slice none 0 0] 25)
  rw [World.size_alloc] at ha2
  have hua := hua1.trans hua2 (fun _ _ e => e)
  clear hv hb hr hx h hm1 hnx ha1 hua1 hua2 hds
  go_enter Tryz.func81, Tryz.ntmps81
  go_upto_region 1 with fail
  obtain ⟨p1, hp1⟩ : ∃ p, p = w.heap.size := ⟨_, rfl⟩
  obtain ⟨p2, hp2⟩ : ∃ p, p = w.heap.size + 1 := ⟨_, rfl⟩
  rw [← hp2, ← hp1] at ha2
  rw [← hp2, ← hp1]
  have HRM := hid ha2; have HUP := hid hua
  have HNE := hid (show p1 ≠ p2 from by omega)
  have HNR2 := hid (show ∀ y ∈ R, y.1 ≠ p2 from fun y hy e => by have := lt_of_heap (HRM0.out.get (b := y.1) (o := y.2) hy).1; omega)
  generalize (w.alloc (.cells #[.int .i64 x.gen, .int .i64 x.flushed, .int .i64 x.next, .int .i64 x.low, .int .i64 x.clock, .slice s1 m1 d1, .slice s2 nx d2] 25)).alloc (.cells #[.int .i64 0, .int .i64 0, .int .i64 0, .int .i64 0, .int .i64 0, .slice none 0 0, .slice none 0 0] 25) = W2 at HRM HUP ⊢
  clear ha2 hua hp1 hp2
  obtain ⟨⟨la, lc, rfl, hl1, hl2⟩, -⟩ := HRM.out.shapes
  obtain ⟨NL, hNL⟩ : ∃ n, n = Ms.length := ⟨_, rfl⟩
  rw [← hNL] at HRM hms hl1
  have HNL := hid hNL
  obtain ⟨⟨t0, t1, t2⟩, ⟨q0, q1, q2⟩, hpl⟩ := HRM.out.topcells
  obtain ⟨⟨z0, z1, z2, z3, z4, z5, z6⟩, -, hzl⟩ := verCells (HRM.out.get (b := p1) (.tail _ (.head _))).1
  clear hNL t1 t2 q1 q2 z0 z1 z2 z3 z4 z5
  go_upto_if 21 with fail
  go_cut [] (fun wx => ∃ lv Ms, RmIn p B wx lv Ms dv st ds ((p2, .cells #[.int .i64 0, .int .i64 0, .int .i64 0, .int .i64 0, .int .i64 0, .slice none 0 0, .slice none 0 0] 25 (0, 0)) :: (p1, .cells #[.int .i64 x.gen, .int .i64 x.flushed, .int .i64 x.next, .int .i64 x.low, .int .i64 x.clock, .slice s1 m1 d1, .slice s2 nx d2] 25 (0, 0)) :: R) ∧ 2 * nx + 9 ≤ Ms.length ∧ Ms.length ≤ 3000000000000 ∧ Upd (OutR p B) w wx)
  case first =>
    by_cases hsm : NL < 2 * nx + 9
    · have hsm' : (NL : Int) < 2 * (nx : Int) + 9 := by omega
      obtain ⟨M, hM⟩ : ∃ M, M = 2 * nx + 40 := ⟨_, rfl⟩
      have hM' : 2 * (nx : Int) + 40 = (M : Int) := by omega
      obtain ⟨hmk, hmr, hmu⟩ := HRM.out.made (M := M) (by omega)
      have HMR := hid hmr; have HMU := hid hmu; have HM := hid hM
      clear hmr hmu hM
      go_wp2
      go_meet
      case rel => exact ⟨_, _, HMR.out, by rw [List.length_replicate]; have := HM.out; omega, by rw [List.length_replicate]; have := HM.out; omega, HUP.out.trans HMU.out (fun _ _ e => e)⟩
    · have hsm' : ¬ (NL : Int) < 2 * (nx : Int) + 9 := by omega
      go_wp2
      go_meet
      case rel => exact ⟨_, _, HRM.out, by have := HNL.out; omega, by have := HNL.out; omega, HUP.out⟩
  case rest =>
    clear t0 q0 hpl z6 hzl hl1 hl2 hms HNL HRM HUP HRM0
    clear la lc Ms W2 NL
    obtain ⟨lv, Ms, hrm, hbig, hms, hup⟩ := hcut
    have HRM := hid hrm; have HUP := hid hup
    obtain ⟨⟨la, lc, rfl, hl1, hl2⟩, -⟩ := hrm.shapes
    obtain ⟨NL, hNL⟩ : ∃ n, n = Ms.length := ⟨_, rfl⟩
    rw [← hNL] at HRM hms hbig hl1
    have HNL := hid hNL
    clear hrm hup hNL
    go_wp2
    go_loopw [6] (fun iv wr => ∃ j : Nat, iv = .int .i64 j ∧ j ≤ NL ∧ ∃ Ms' : List MV, Ms'.length = NL ∧ RmIn p B wr (.slice la NL lc) Ms' dv st ds ((p2, .cells #[.int .i64 0, .int .i64 0, .int .i64 0, .int .i64 0, .int .i64 0, .slice none 0 0, .slice none 0 0] 25 (0, 0)) :: (p1, .cells #[.int .i64 x.gen, .int .i64 x.flushed, .int .i64 x.next, .int .i64 x.low, .int .i64 x.clock, .slice s1 m1 d1, .slice s2 nx d2] 25 (0, 0)) :: R) ∧ Upd (OutR p B) w wr ∧ ∀ t, t < j → Ms'[t]? = some (markMV t)) (fun iv _ => NL - (intOf iv).toNat)
    case atStart => exact ⟨0, rfl, Nat.zero_le _, Ms, HNL.out.symm, HRM.out, HUP.out, fun t ht => absurd ht (by omega)⟩
    case round =>
      clear HRM HUP
      obtain ⟨j, rfl, hj, Ms', hml, hrm, hup, hmk⟩ := hrel
      have HRM := hid hrm; have HUP := hid hup; have HMK := hid hmk; have HML := hid hml
      obtain ⟨⟨t0, t1, t2⟩, ⟨q0, q1, q2⟩, hpl⟩ := hrm.topcells
      clear t1 t2 q1 q2 hup hmk
      by_cases hlt : j < NL
      · obtain ⟨g, cap, e, hgl, hc1, hc2, hcf, hset⟩ := hrm.write (k := j) (by omega)
        injection e with e1 e2 e3
        subst e1; subst e3
        clear e2
        obtain ⟨⟨x0, d0⟩, f0⟩ := hcf 0 (by omega)
        obtain ⟨⟨x1, d1'⟩, f1⟩ := hcf 1 (by omega)
        obtain ⟨⟨x2, d2'⟩, f2⟩ := hcf 2 (by omega)
        obtain ⟨⟨x3, d3⟩, f3⟩ := hcf 3 (by omega)
        obtain ⟨⟨x4, d4⟩, f4⟩ := hcf 4 (by omega)
        obtain ⟨⟨x5, d5⟩, f5⟩ := hcf 5 (by omega)
        obtain ⟨⟨x6, d6⟩, f6⟩ := hcf 6 (by omega)
        obtain ⟨⟨x7, d7⟩, f7⟩ := hcf 7 (by omega)
        simp only [Nat.add_zero] at d0 f0
        have HSET := hid (show RmIn p B (((((((((wr.setCell ⟨g, j * 8, none⟩ (.int .i64 (-500 - (j : Int)))).setCell ⟨g, j * 8 + 1, none⟩ (.int .i64 0)).setCell ⟨g, j * 8 + 2, none⟩ (.int .i64 0)).setCell ⟨g, j * 8 + 3, none⟩ (.int .i64 0)).setCell ⟨g, j * 8 + 4, none⟩ (.int .i64 0)).setCell ⟨g, j * 8 + 5, none⟩ (.int .i64 0)).setCell ⟨g, j * 8 + 6, none⟩ (.slice none 0 0)).setCell ⟨g, j * 8 + 7, none⟩ (.slice none 0 0))) (.slice (some ⟨g, 0, none⟩) NL lc) (Ms'.set j (markMV j)) dv st ds ((p2, .cells #[.int .i64 0, .int .i64 0, .int .i64 0, .int .i64 0, .int .i64 0, .slice none 0 0, .slice none 0 0] 25 (0, 0)) :: (p1, .cells #[.int .i64 x.gen, .int .i64 x.flushed, .int .i64 x.next, .int .i64 x.low, .int .i64 x.clock, .slice s1 m1 d1, .slice s2 nx d2] 25 (0, 0)) :: R) ∧ Upd (OutR p B) wr (((((((((wr.setCell ⟨g, j * 8, none⟩ (.int .i64 (-500 - (j : Int)))).setCell ⟨g, j * 8 + 1, none⟩ (.int .i64 0)).setCell ⟨g, j * 8 + 2, none⟩ (.int .i64 0)).setCell ⟨g, j * 8 + 3, none⟩ (.int .i64 0)).setCell ⟨g, j * 8 + 4, none⟩ (.int .i64 0)).setCell ⟨g, j * 8 + 5, none⟩ (.int .i64 0)).setCell ⟨g, j * 8 + 6, none⟩ (.slice none 0 0)).setCell ⟨g, j * 8 + 7, none⟩ (.slice none 0 0))) from hset (markMV j))
        have hji : (j : Int) < (NL : Int) := by omega
        clear hcf hset hrm hml
        go_wp2
        go_roundw
        case rel => exact ⟨j + 1, by go_num, by omega, Ms'.set j (markMV j), by rw [List.length_set]; exact HML.out, HSET.out.1, HUP.out.trans HSET.out.2 (fun _ _ e => e), fun t ht => by
          by_cases e : t = j
          · subst e; rw [List.getElem?_set_self (by have := HML.out; omega)]
          · rw [List.getElem?_set_ne (by omega)]; exact HMK.out t (by omega)⟩
        case measure => simp [intOf]; omega
      · obtain rfl : j = NL := by omega
        obtain ⟨wo, rfl⟩ : ∃ wo, wo = wr := ⟨_, rfl⟩
        clear hrm hml
        go_wp2
        go_loopw [51] (fun _ wr => ∃ dv ds, RmIn p B wr (.slice la j lc) Ms' dv st ds ((p2, .cells #[.int .i64 0, .int .i64 0, .int .i64 0, .int .i64 0, .int .i64 0, .slice none 0 0, .slice none 0 0] 25 (0, 0)) :: (p1, .cells #[.int .i64 x.gen, .int .i64 x.flushed, .int .i64 x.next, .int .i64 x.low, .int .i64 x.clock, .slice s1 m1 d1, .slice s2 nx d2] 25 (0, 0)) :: R) ∧ Upd (OutR p B) w wr ∧ (ds : List DK).length ≤ 4000000000000) (fun _ wr => 2 * nx - lenDesks p wr)
        case atStart => exact ⟨dv, ds, HRM.out, HUP.out, HDS.out⟩
        case round =>
          clear t0 q0 hpl HRM HUP HDS
          obtain ⟨dv, ds, hrm, hup, hds⟩ := hrel
          have HRM := hid hrm; have HUP := hid hup; have HDS := hid hds
          obtain ⟨-, da, dc, rfl, hd1', hd2'⟩ := hrm.shapes
          obtain ⟨ND, hND⟩ : ∃ n, n = ds.length := ⟨_, rfl⟩
          rw [← hND] at HRM hd1' hds
          have HND := hid hND
          have HPU := hid (HRM.out.push1 (by omega))
          rw [← hND] at HPU
          obtain ⟨⟨t0, t1, t2⟩, ⟨q0, q1, q2⟩, hpl⟩ := HRM.out.topcells
          clear t0 t1 q0 q1 hrm hup hND
          by_cases hlt : ND < 2 * nx
          · have hlt' : (ND : Int) < 2 * (nx : Int) := by omega
            obtain ⟨ao, cap, w2, hrun, ⟨u0, u1, u2⟩, hrm2, hup2⟩ := HPU.out
            have HRUN := hid hrun; have HRM2 := hid hrm2; have HUP2 := hid hup2
            clear hrun hrm2 hup2 HPU
            go_wp2_with (at_builtin; refine wpList_append_run rfl _ _ _ rfl rfl rfl HRUN.out ?_)
            go_roundw
            case rel => exact ⟨_, _, HRM2.out, HUP.out.trans HUP2.out (fun _ _ e => e), by rw [List.length_append]; have := HND.out; simp; omega⟩
            case measure => rw [HRM2.out.lenDesks, HRM.out.lenDesks, List.length_append]; have := HND.out; simp; omega
          · have hlt' : ¬ (ND : Int) < 2 * (nx : Int) := by omega
            clear HPU
            have HLT0 := hid (show LaidTo 0 x.runs Ms' ds from ⟨by rw [HML.out, ← HNX.out]; exact hbig, by rw [← HNX.out, ← HND.out]; omega, fun i _ hi => absurd hi (by omega), fun i hi _ => HMK.out i (by rw [← HML.out]; exact hi)⟩)
            obtain ⟨wo, rfl⟩ : ∃ wo, wo = wr := ⟨_, rfl⟩
            go_wp2
            go_loopw [7] (fun iv wr => ∃ i : Nat, iv = .int .i64 i ∧ i ≤ nx ∧ ∃ Ms' ds', (Ms' : List MV).length = j ∧ (ds' : List DK).length = ND ∧ RmIn p B wr (.slice la j lc) Ms' (.slice da ND dc) st ds' ((p2, .cells #[.int .i64 0, .int .i64 0, .int .i64 0, .int .i64 0, .int .i64 0, .slice none 0 0, .slice none 0 0] 25 (0, 0)) :: (p1, .cells #[.int .i64 x.gen, .int .i64 x.flushed, .int .i64 x.next, .int .i64 x.low, .int .i64 x.clock, .slice s1 m1 d1, .slice s2 nx d2] 25 (0, 0)) :: R) ∧ Upd (OutR p B) w wr ∧ LaidTo i x.runs Ms' ds') (fun iv _ => nx - (intOf iv).toNat)
            case atStart => exact ⟨0, rfl, Nat.zero_le _, Ms', ds, HML.out, HND.out.symm, HRM.out, HUP.out, HLT0.out⟩
            case round =>
              clear t2 q2 hpl HRM HUP HLT0 HMK HML HND
              obtain ⟨i, rfl, hi, Ms, ds, hml, hdl, hrm, hup, hlt0⟩ := hrel
              have HRM := hid hrm; have HUP := hid hup; have HLT := hid hlt0; have HML := hid hml; have HDL := hid hdl
              obtain ⟨wo, rfl⟩ : ∃ wo, wo = wr := ⟨_, rfl⟩
              obtain ⟨⟨z0, z1, z2, z3, z4, z5, z6⟩, -, hzl⟩ := verCells (hrm.get (b := p1) (.tail _ (.head _))).1
              clear z0 z1 z2 z3 z4 z5 hrm hup hlt0 hml hdl
              by_cases hin : i < nx
              · have hix : i < x.runs.length := by have := HNX.out; omega
                have hrk := HR.out.keep HUP.out
                rw [HNX.out] at hrk
                obtain ⟨bx, ox, f1, c1, f2, c2, hs2, hd2c, hcl, hB1, hB2⟩ := hrk.run hix
                subst hs2
                obtain ⟨r, hr⟩ : ∃ r, r = x.runs[i] := ⟨_, rfl⟩
                rw [← hr] at hcl hB1 hB2
                have HRI := hid hr
                obtain ⟨l1, hl1'⟩ : ∃ l, l = r.first.length := ⟨_, rfl⟩
                obtain ⟨l2, hl2'⟩ : ∃ l, l = r.last.length := ⟨_, rfl⟩
                rw [← hl1'] at hcl hB1
                rw [← hl2'] at hcl hB2
                have HSZ := hid (HX.out.2.2 r (by rw [hr]; exact List.getElem_mem hix))
                have HL1 := hid hl1'; have HL2 := hid hl2'; have HB1 := hid hB1; have HB2 := hid hB2; have HCL := hid hcl
                obtain ⟨hbx, v0, v1, v2, v3, v4, v5, v6, v7⟩ := hcl _ (Upd.refl _ _)
                have hxc : (i : Int) < (d2 : Int) := by have := HNX.out; omega
                have hin' : (i : Int) < (nx : Int) := by omega
                obtain ⟨hrm3, hup3⟩ := HRM.out.push (.cells #[.int .i64 r.num, .int .i64 r.count, .int .i64 r.index, .int .i64 r.low, .int .i64 r.clock, .int .i64 r.bytes, .slice f1 l1 c1, .slice f2 l2 c2] 48)
                clear hcl hB1 hB2 hr hl1' hl2' hrk
                go_upto_region 14 with fail
                obtain ⟨p3, hp3⟩ : ∃ p, p = wo.heap.size := ⟨_, rfl⟩
                rw [← hp3] at hrm3
                rw [← hp3]
                have HRM3 := hid hrm3; have HUP3 := hid hup3
                have HNE3 := hid (show p3 ≠ p1 ∧ p3 ≠ p2 from ⟨fun e => by have := lt_of_heap (HRM.out.get (b := p1) (.tail _ (.head _))).1; omega, fun e => by have := lt_of_heap (HRM.out.get (b := p2) (.head _)).1; omega⟩)
                have HNR3 := hid (show ∀ y ∈ R, y.1 ≠ p3 from fun y hy e => by have := lt_of_heap (HRM.out.get (b := y.1) (o := y.2) (.tail _ (.tail _ hy))).1; omega)
                generalize wo.alloc (.cells #[.int .i64 r.num, .int .i64 r.count, .int .i64 r.index, .int .i64 r.low, .int .i64 r.clock, .int .i64 r.bytes, .slice f1 l1 c1, .slice f2 l2 c2] 48) = W5 at HRM3 HUP3 ⊢
                clear hrm3 hup3 hp3 hbx v0 v1 v2 v3 v4 v5 v6 v7 z6 hzl
                have hdr5 : Upd (fun _ => False) W5 W5.drew := (Upd.refl _ _).drew
                have hup5 := (HUP.out.trans HUP3.out (fun _ _ e => e)).trans (HRM3.out.toOut hdr5) (fun _ _ e => e)
                obtain ⟨q, hq⟩ : ∃ q, q = 2 * i := ⟨_, rfl⟩
                have hqi : 2 * (i : Int) = (q : Int) := by omega
                have hqN : q < ND := by have := HLT.out.dbig; have := HDL.out; have := HNX.out; omega
                have hqNi : (q : Int) < (ND : Int) := by omega
                have hqw : IntKind.i64.wrap (q : Int) = (q : Int) := by rw [IntKind.wrap_i64]; omega
                obtain ⟨k1, ha1⟩ : ∃ k, ds[q]? = some k := ⟨_, List.getElem?_eq_getElem (by have := HLT.out.dbig; have := HNX.out; omega)⟩
                obtain ⟨gd, dcc, ed, hgd, hcd, hain⟩ := HRM3.out.deskAt ha1
                injection ed with ed1 ed2 ed3
                subst ed1; subst ed3
                clear ed2
                have hrm5 := HRM3.out.quiet hdr5
                have hbk1 := (HB1.out.keep (HUP3.out.trans (HRM3.out.toOut hdr5) (fun _ _ e => e)))
                have hle := lend_any (hain.upd hdr5 (fun _ _ e => e)) (bv := .slice f1 l1 c1) (data := r.first) (hbk1.at.bytes) (fun a l c e h0 => ⟨fun e2 => (hbk1.out a l c e h0).1 (HRM3.out.deskOut ha1 _ e2), (hbk1.out a l c e h0).2⟩) (by have := HSZ.out.1; omega)
                have HLE := hid hle; have HRM5 := hid hrm5; have HA1 := hid ha1
                obtain ⟨⟨t0, t1, t2⟩, -, hpl⟩ := HRM3.out.topcells
                obtain ⟨⟨z0, z1, z2, z3, z4, z5, z6⟩, -, hzl⟩ := verCells (HRM3.out.get (b := p1) (.tail _ (.tail _ (.head _)))).1
                obtain ⟨hbx, v0, v1, v2, v3, v4, v5, v6, v7⟩ := HCL.out _ HUP3.out
                have HQ := hid hq
                have HUP5 := hid hup5
                rw [← HL1.out] at HLE
                clear t0 t1 z0 z1 z2 z3 z4 z5 v0 v1 v2 v3 v4 v5 v7 hle hrm5 hbk1 ha1 hain hup5 hdr5 hq
                go_still_tail 14, (by kernel_rfl)
                change wpList _ _ _ _ _ W5.drew
                go_wp2_with fail
                refine HLE.out.mono ?_
                rintro e W6 ⟨k1', g1, k1c, rfl, hst, hlent, hrv⟩

                obtain ⟨hrm6, hup6⟩ := HRM5.out.desk HA1.out hst
                have hbox6 := (hrm6.get (b := p3) (.head _)).1
                have HRM6 := hid hrm6; have HUP6 := hid (HUP5.out.trans hup6 (fun _ _ e => e)); have HLN1 := hid hlent; have HRV1 := hid hrv
                obtain ⟨⟨x0, x1, x2, x3, x4, x5, x6, x7⟩, y6, y7, hpl3⟩ := metaCells hbox6
                clear x0 x1 x2 x3 x4 x5 x7 y7
                have hs7 := heap_setCell_at W6 p3 6 _ _ (.slice (some ⟨g1, 0, none⟩) l1 k1c) hbox6
                obtain ⟨hrm7, hup7⟩ := hrm6.set (b := p3) (o' := .cells #[.int .i64 r.num, .int .i64 r.count, .int .i64 r.index, .int .i64 r.low, .int .i64 r.clock, .int .i64 r.bytes, .slice (some ⟨g1, 0, none⟩) l1 k1c, .slice f2 l2 c2] 48 (0, 0)) (R' := ((p2, .cells #[.int .i64 0, .int .i64 0, .int .i64 0, .int .i64 0, .int .i64 0, .slice none 0 0, .slice none 0 0] 25 (0, 0)) :: (p1, .cells #[.int .i64 x.gen, .int .i64 x.flushed, .int .i64 x.next, .int .i64 x.low, .int .i64 x.clock, .slice s1 m1 d1, .slice (some ⟨bx, ox, none⟩) nx d2] 25 (0, 0)) :: R)) (.head _) (Upd.cell_only W6 p3 6 (.slice (some ⟨g1, 0, none⟩) l1 k1c)) hs7 (fun y hy => ⟨.tail _ hy, fun e => by
                  rcases List.mem_cons.1 hy with h1 | h1
                  · rw [h1] at e; exact HNE3.out.2 e.symm
                  · rcases List.mem_cons.1 h1 with h2 | h2
                    · rw [h2] at e; exact HNE3.out.1 e.symm
                    · exact HNR3.out y h2 e⟩)
                have HUO := hid ((HUP3.out.trans (HRM3.out.toOut ((Upd.refl _ _).drew)) (fun _ _ e => e)).trans (hup6.trans hup7 (fun _ _ e => e)) (fun _ _ e => e))
                have HRM7 := hid hrm7; have HUP7 := hid (HUP6.out.trans hup7 (fun _ _ e => e))
                clear hst hlent hrv hrm6 hup6 hbox6 hs7 hrm7 hup7 HLE HRM5 z6 hzl v6 hbx t2 hpl hcd hgd HRM3 HUP3
                go_upto_region 15 with fail
                generalize W6.setCell ⟨p3, 6, none⟩ (.slice (some ⟨g1, 0, none⟩) l1 k1c) = W7 at HRM7 HUP7 HUO ⊢
                clear x6 y6 hpl3 HRM6 HUP6
                have hdr8 : Upd (fun _ => False) W7 W7.drew := (Upd.refl _ _).drew
                obtain ⟨q1, hq1⟩ : ∃ q1, q1 = q + 1 := ⟨_, rfl⟩
                have hq1i : (q : Int) + 1 = (q1 : Int) := by omega
                have hq1N : q1 < ND := by have := HLT.out.dbig; have := HDL.out; have := HNX.out; have := HQ.out; omega
                have hq1Ni : (q1 : Int) < (ND : Int) := by omega
                have hq1w : IntKind.i64.wrap (q1 : Int) = (q1 : Int) := by rw [IntKind.wrap_i64]; omega
                obtain ⟨k2, ha2⟩ : ∃ k, (ds.set q k1')[q1]? = some k := ⟨_, List.getElem?_eq_getElem (by rw [List.length_set]; have := HDL.out; omega)⟩
                obtain ⟨gd2, dcc2, ed, hgd2, hcd2, hain2⟩ := HRM7.out.deskAt ha2
                injection ed with ed1 ed2 ed3
                injection ed1 with ed1
                injection ed1 with ed1
                subst ed1; subst ed3
                clear ed2
                have hrm8 := HRM7.out.quiet hdr8
                have hup8 := HUP7.out.trans (HRM7.out.toOut hdr8) (fun _ _ e => e)
                have hbk2 := HB2.out
                have hwo : Upd (OutR p B) wo W7.drew := HUO.out.trans (HRM7.out.toOut hdr8) (fun _ _ e => e)
                have hbk2 := HB2.out.keep hwo
                have hle := lend_any (hain2.upd hdr8 (fun _ _ e => e)) (bv := .slice f2 l2 c2) (data := r.last) (hbk2.at.bytes) (fun a l c e h0 => ⟨fun e2 => (hbk2.out a l c e h0).1 (HRM7.out.deskOut ha2 _ e2), (hbk2.out a l c e h0).2⟩) (by have := HSZ.out.2; omega)
                have HLE := hid hle; have HRM8 := hid hrm8; have HA2 := hid ha2
                obtain ⟨⟨t0, t1, t2⟩, -, hpl⟩ := HRM7.out.topcells
                obtain ⟨⟨z0, z1, z2, z3, z4, z5, z6⟩, -, hzl⟩ := verCells (HRM7.out.get (b := p1) (.tail _ (.tail _ (.head _)))).1
                obtain ⟨hbx, v0, v1, v2, v3, v4, v5, v6, v7⟩ := HCL.out _ HUO.out
                have HUP8 := hid hup8
                have HQ1 := hid hq1
                rw [← HL2.out] at HLE
                clear t0 t1 z0 z1 z2 z3 z4 z5 v0 v1 v2 v3 v4 v5 v6 hle hrm8 hbk2 ha2 hain2 hup8 hdr8 hwo hq1
                go_still_tail 15, (by kernel_rfl)
                change wpList _ _ _ _ _ W7.drew
                go_wp2_with fail
                refine HLE.out.mono ?_
                rintro e W9 ⟨k2', g2, k2c, rfl, hst, hlent, hrv⟩

                obtain ⟨hrm9, hup9⟩ := HRM8.out.desk HA2.out hst
                have hbox9 := (hrm9.get (b := p3) (.head _)).1
                have HRM9 := hid hrm9; have HUP9 := hid (HUP8.out.trans hup9 (fun _ _ e => e)); have HLN2 := hid hlent; have HRV2 := hid hrv
                obtain ⟨⟨x0, x1, x2, x3, x4, x5, x6, x7⟩, y6, y7, hpl3⟩ := metaCells hbox9
                clear x0 x1 x2 x3 x4 x5 x6 y6
                have hs10 := heap_setCell_at W9 p3 7 _ _ (.slice (some ⟨g2, 0, none⟩) l2 k2c) hbox9
                obtain ⟨hrm10, hup10⟩ := hrm9.set (b := p3) (o' := .cells #[.int .i64 r.num, .int .i64 r.count, .int .i64 r.index, .int .i64 r.low, .int .i64 r.clock, .int .i64 r.bytes, .slice (some ⟨g1, 0, none⟩) l1 k1c, .slice (some ⟨g2, 0, none⟩) l2 k2c] 48 (0, 0)) (R' := ((p2, .cells #[.int .i64 0, .int .i64 0, .int .i64 0, .int .i64 0, .int .i64 0, .slice none 0 0, .slice none 0 0] 25 (0, 0)) :: (p1, .cells #[.int .i64 x.gen, .int .i64 x.flushed, .int .i64 x.next, .int .i64 x.low, .int .i64 x.clock, .slice s1 m1 d1, .slice (some ⟨bx, ox, none⟩) nx d2] 25 (0, 0)) :: R)) (.head _) (Upd.cell_only W9 p3 7 (.slice (some ⟨g2, 0, none⟩) l2 k2c)) hs10 (fun y hy => ⟨.tail _ hy, fun e => by
                  rcases List.mem_cons.1 hy with h1 | h1
                  · rw [h1] at e; exact HNE3.out.2 e.symm
                  · rcases List.mem_cons.1 h1 with h2 | h2
                    · rw [h2] at e; exact HNE3.out.1 e.symm
                    · exact HNR3.out y h2 e⟩)
                have HRM10 := hid hrm10; have HUP10 := hid (HUP9.out.trans hup10 (fun _ _ e => e))
                clear hst hlent hrv hrm9 hup9 hbox9 hs10 hrm10 hup10 HLE HRM8 z6 hzl v7 hbx t2 hpl hcd2 hgd2
                go_upto_region 16 with fail
                generalize W9.setCell ⟨p3, 7, none⟩ (.slice (some ⟨g2, 0, none⟩) l2 k2c) = W10 at HRM10 HUP10 ⊢
                clear x7 y7 hpl3 HRM9 HUP9
                have hdr10 : Upd (fun _ => False) W10 W10.drew := (Upd.refl _ _).drew
                have hiM : i < Ms.length := by have := HLT.out.big; omega
                have hrm11 := HRM10.out.quiet hdr10
                obtain ⟨g, cap, e, hgl, hc1, hc2, hcf, hset⟩ := hrm11.write (k := i) hiM
                injection e with e1 e2 e3
                subst e1; subst e3
                obtain ⟨⟨t0, t1, t2⟩, -, hpl⟩ := hrm11.topcells
                obtain ⟨⟨x0, x1, x2, x3, x4, x5, x6, x7⟩, -, -, hpl3⟩ := metaCells (hrm11.get (b := p3) (.head _)).1
                have hij : i < j := by rw [← HML.out]; exact hiM
                have hiji : (i : Int) < (j : Int) := by omega
                obtain ⟨⟨b0, d0⟩, f0⟩ := hcf 0 (by omega)
                obtain ⟨⟨b1, d1'⟩, f1⟩ := hcf 1 (by omega)
                obtain ⟨⟨b2, d2'⟩, f2⟩ := hcf 2 (by omega)
                obtain ⟨⟨b3, d3⟩, f3⟩ := hcf 3 (by omega)
                obtain ⟨⟨b4, d4⟩, f4⟩ := hcf 4 (by omega)
                obtain ⟨⟨b5, d5⟩, f5⟩ := hcf 5 (by omega)
                obtain ⟨⟨b6, d6⟩, f6⟩ := hcf 6 (by omega)
                obtain ⟨⟨b7, d7⟩, f7⟩ := hcf 7 (by omega)
                simp only [Nat.add_zero] at d0 f0
                have HSET := hid (show RmIn p B (((((((((W10.drew.setCell ⟨g, i * 8, none⟩ (.int .i64 r.num)).setCell ⟨g, i * 8 + 1, none⟩ (.int .i64 r.count)).setCell ⟨g, i * 8 + 2, none⟩ (.int .i64 r.index)).setCell ⟨g, i * 8 + 3, none⟩ (.int .i64 r.low)).setCell ⟨g, i * 8 + 4, none⟩ (.int .i64 r.clock)).setCell ⟨g, i * 8 + 5, none⟩ (.int .i64 r.bytes)).setCell ⟨g, i * 8 + 6, none⟩ (.slice (some ⟨g1, 0, none⟩) l1 k1c)).setCell ⟨g, i * 8 + 7, none⟩ (.slice (some ⟨g2, 0, none⟩) l2 k2c))) (.slice (some ⟨g, 0, none⟩) j lc) (Ms.set i ⟨r, .slice (some ⟨g1, 0, none⟩) l1 k1c, .slice (some ⟨g2, 0, none⟩) l2 k2c⟩) _ st _ _ ∧ Upd (OutR p B) W10.drew (((((((((W10.drew.setCell ⟨g, i * 8, none⟩ (.int .i64 r.num)).setCell ⟨g, i * 8 + 1, none⟩ (.int .i64 r.count)).setCell ⟨g, i * 8 + 2, none⟩ (.int .i64 r.index)).setCell ⟨g, i * 8 + 3, none⟩ (.int .i64 r.low)).setCell ⟨g, i * 8 + 4, none⟩ (.int .i64 r.clock)).setCell ⟨g, i * 8 + 5, none⟩ (.int .i64 r.bytes)).setCell ⟨g, i * 8 + 6, none⟩ (.slice (some ⟨g1, 0, none⟩) l1 k1c)).setCell ⟨g, i * 8 + 7, none⟩ (.slice (some ⟨g2, 0, none⟩) l2 k2c))) from hset ⟨r, .slice (some ⟨g1, 0, none⟩) l1 k1c, .slice (some ⟨g2, 0, none⟩) l2 k2c⟩)
                have HUP11 := hid (HUP10.out.trans (HRM10.out.toOut hdr10) (fun _ _ e => e))
                clear hcf hset hrm11 hdr10 e2 t1 t2 hiM
                go_still_tail 7, (by kernel_rfl)
                change wpList _ _ _ _ _ W10.drew
                generalize W10.drew = W11 at HSET HUP11 t0 hpl x0 x1 x2 x3 x4 x5 x6 x7 hpl3 d0 f0 d1' f1 d2' f2 d3 f3 d4 f4 d5 f5 d6 f6 d7 f7 hgl ⊢
                go_wp2
                go_roundw
                case rel =>
                  refine ⟨i + 1, by go_num, by omega, Ms.set i ⟨r, .slice (some ⟨g1, 0, none⟩) l1 k1c, .slice (some ⟨g2, 0, none⟩) l2 k2c⟩, (ds.set q k1').set q1 k2', by rw [List.length_set]; exact HML.out, by rw [List.length_set, List.length_set]; exact HDL.out, HSET.out.1.sub (fun y hy => .tail _ hy), HUP11.out.trans HSET.out.2 (fun _ _ e => e), ?_⟩
                  have h := HLT.out.step (show i < x.runs.length from by have := HNX.out; omega) (k1 := k1') (k2 := k2') (by rw [← HRI.out]; exact HLN1.out) (by rw [← HRI.out]; exact HLN2.out)
                  rw [← HRI.out] at h
                  have e1 : k1'.part r.first.length = .slice (some ⟨g1, 0, none⟩) l1 k1c := by unfold DK.part; rw [HRV1.out, ← HL1.out]
                  have e2 : k2'.part r.last.length = .slice (some ⟨g2, 0, none⟩) l2 k2c := by unfold DK.part; rw [HRV2.out, ← HL2.out]
                  rw [e1, e2, ← HQ.out, ← HQ1.out] at h
                  exact h
                case measure => simp [intOf]; omega
              · skip
                obtain rfl : i = nx := by omega
                clear z6 hzl
                obtain ⟨⟨t0, t1, t2⟩, ⟨y0, y1, y2⟩, hpl⟩ := HRM.out.topcells
                obtain ⟨po, hpo⟩ : ∃ po, po = st.map fun k => (⟨k.p, 0, none⟩ : Addr) := ⟨_, rfl⟩
                rw [← hpo] at t1
                have HPO := hid hpo
                clear t0 t2 y0 y2 hpo
                go_upto_if 120 with fail
                go_cut [] (fun wx => ∃ k, RmIn p B wx (.slice la j lc) Ms (.slice da ND dc) (some k) ds ((p2, .cells #[.int .i64 0, .int .i64 0, .int .i64 0, .int .i64 0, .int .i64 0, .slice none 0 0, .slice none 0 0] 25 (0, 0)) :: (p1, .cells #[.int .i64 x.gen, .int .i64 x.flushed, .int .i64 x.next, .int .i64 x.low, .int .i64 x.clock, .slice s1 m1 d1, .slice s2 i d2] 25 (0, 0)) :: R) ∧ Upd (OutR p B) w wx)
                case first =>
                  cases st with
                  | none =>
                    have HST := hid HRM.out.stamp
                    obtain rfl := HPO.out
                    go_wp2
                    go_meet
                    case rel => exact ⟨_, HST.out.1, HUP.out.trans HST.out.2 (fun _ _ e => e)⟩
                  | some k =>
                    obtain rfl := HPO.out
                    go_wp2
                    go_meet
                    case rel => exact ⟨_, HRM.out, HUP.out⟩
                case rest =>
                  clear t1 y1 hpl HRM HUP HPO
                  obtain ⟨k, hrm, hup⟩ := hcut
                  have HUPc := hid hup; have HRMc := hid hrm
                  obtain ⟨⟨z0, z1, z2, z3, z4, z5, z6⟩, -, hzl⟩ := verCells (hrm.get (b := p1) (.tail _ (.head _))).1
                  obtain ⟨hrm9, hup9⟩ := hrm.push (.cells #[.int .i64 x.gen, .int .i64 x.flushed, .int .i64 x.next, .int .i64 x.low, .int .i64 x.clock, .slice s1 m1 d1, .slice s2 i d2] 25)
                  clear hrm hup
                  go_upto_region 20 with fail
                  obtain ⟨p9, hp9⟩ : ∃ p, p = wc.heap.size := ⟨_, rfl⟩
                  rw [← hp9] at hrm9
                  rw [← hp9]
                  have HRM9 := hid hrm9; have HUP9 := hid hup9
                  have HNE9 := hid (show p9 ≠ p1 ∧ p9 ≠ p2 from ⟨fun e => by have := lt_of_heap (HRMc.out.get (b := p1) (.tail _ (.head _))).1; omega, fun e => by have := lt_of_heap (HRMc.out.get (b := p2) (.head _)).1; omega⟩)
                  have HNR9 := hid (show ∀ y ∈ R, y.1 ≠ p9 from fun y hy e => by have := lt_of_heap (HRMc.out.get (b := y.1) (o := y.2) (.tail _ (.tail _ hy))).1; omega)
                  generalize wc.alloc (.cells #[.int .i64 x.gen, .int .i64 x.flushed, .int .i64 x.next, .int .i64 x.low, .int .i64 x.clock, .slice s1 m1 d1, .slice s2 i d2] 25) = W9 at HRM9 HUP9 ⊢
                  clear hrm9 hup9 hp9 z0 z1 z2 z3 z4 z5 z6 hzl
                  have hdr : Upd (fun _ => False) W9 W9.drew := (Upd.refl _ _).drew
                  obtain ⟨hkin, hkout⟩ := HRM9.out.stateOut
                  have hup10 := (HUPc.out.trans HUP9.out (fun _ _ e => e)).trans (HRM9.out.toOut hdr) (fun _ _ e => e)
                  have hbk := HB.out.keep hup10
                  have hle := lend_any (hkin.upd hdr (fun _ _ e => e)) (bv := .slice s1 m1 d1) (data := x.state) (hbk.at.bytes) (fun a l c e h0 => ⟨fun e2 => (hbk.out a l c e h0).1 (hkout _ e2), (hbk.out a l c e h0).2⟩) (by have := HX.out.1; omega)
                  have HLE := hid hle; have HUP10 := hid hup10; have HRMd := hid (HRM9.out.quiet hdr)
                  rw [← HM1.out] at HLE
                  obtain ⟨⟨t0, t1, t2⟩, -, hpl⟩ := HRM9.out.topcells
                  simp only [Option.map_some] at t1
                  obtain ⟨⟨z0, z1, z2, z3, z4, z5, z6⟩, -, hzl⟩ := verCells (HRM9.out.get (b := p1) (.tail _ (.tail _ (.head _)))).1
                  clear t0 t2 z0 z1 z2 z3 z4 z6 hle hbk hup10 hkin hkout hdr
                  go_still_tail 6, (by kernel_rfl)
                  change wpList _ _ _ _ _ W9.drew
                  go_wp2_with fail
                  refine HLE.out.mono ?_
                  rintro e W10 ⟨k', g, kc, rfl, hst, hlent, hrv⟩
                  obtain ⟨hrm10, hup10⟩ := HRMd.out.state hst
                  have hbox := (hrm10.get (b := p9) (.head _)).1
                  have HRM10 := hid hrm10; have HUP11 := hid (HUP10.out.trans hup10 (fun _ _ e => e)); have HLN := hid hlent; have HRV := hid hrv
                  clear t1 z5 hzl hpl
                  obtain ⟨⟨z0, z1, z2, z3, z4, z5, z6⟩, ⟨f0, f1, f2, f3, f4, f5, f6⟩, hzl⟩ := verCells hbox
                  have hs11 := heap_setCell_at W10 p9 5 _ _ (.slice (some ⟨g, 0, none⟩) m1 kc) hbox
                  obtain ⟨hrm11, hup11⟩ := hrm10.set (b := p9) (o' := .cells #[.int .i64 x.gen, .int .i64 x.flushed, .int .i64 x.next, .int .i64 x.low, .int .i64 x.clock, .slice (some ⟨g, 0, none⟩) m1 kc, .slice s2 i d2] 25 (0, 0)) (R' := ((p2, .cells #[.int .i64 0, .int .i64 0, .int .i64 0, .int .i64 0, .int .i64 0, .slice none 0 0, .slice none 0 0] 25 (0, 0)) :: (p1, .cells #[.int .i64 x.gen, .int .i64 x.flushed, .int .i64 x.next, .int .i64 x.low, .int .i64 x.clock, .slice s1 m1 d1, .slice s2 i d2] 25 (0, 0)) :: R)) (.head _) (Upd.cell_only W10 p9 5 (.slice (some ⟨g, 0, none⟩) m1 kc)) hs11 (fun y hy => ⟨.tail _ hy, fun e => by
                    rcases List.mem_cons.1 hy with h1 | h1
                    · rw [h1] at e; exact HNE9.out.2 e.symm
                    · rcases List.mem_cons.1 h1 with h2 | h2
                      · rw [h2] at e; exact HNE9.out.1 e.symm
                      · exact HNR9.out y h2 e⟩)
                  have HRM11 := hid hrm11; have HUP12 := hid (HUP11.out.trans hup11 (fun _ _ e => e))
                  clear hst hlent hrv hrm10 hup10 hbox hs11 hrm11 hup11 HLE HRMd HRM9 HUP9 HRMc HUPc HRM10 HUP10 z0 z1 z2 z3 z4 z6 f0 f1 f2 f3 f4 f6
                  go_upto_region 21 with fail
                  generalize W10.setCell ⟨p9, 5, none⟩ (.slice (some ⟨g, 0, none⟩) m1 kc) = W11 at HRM11 HUP12 ⊢
                  clear z5 f5 hzl
                  have hlt9 : LaidTo x.runs.length x.runs Ms ds := by rw [← HNX.out]; exact HLT.out
                  have HLT9 := hid hlt9
                  obtain ⟨gs, cs, gl, cl, e1, e2, c1, c2, -⟩ := HRM11.out.ver hlt9 HLN.out
                  injection e2 with i1 i2 i3
                  subst i1
                  have hbg := hlt9.big
                  rw [HML.out, ← HNX.out] at hbg
                  have hc0 : ¬ lc = 0 := by omega
                  have hil : i ≤ lc := by omega
                  have hili : (i : Int) ≤ (lc : Int) := by omega
                  have hi0 : (0 : Int) ≤ (i : Int) := by omega
                  obtain ⟨⟨t0, t1, t2⟩, -, hpl⟩ := HRM11.out.topcells
                  have hbox := (HRM11.out.get (b := p9) (.head _)).1
                  obtain ⟨⟨z0, z1, z2, z3, z4, z5, z6⟩, ⟨f0, f1, f2, f3, f4, f5, f6⟩, hzl⟩ := verCells hbox
                  have hs12 := heap_setCell_at W11 p9 6 _ _ (.slice (some ⟨gl, 0, none⟩) i lc) hbox
                  obtain ⟨hrm12, hup12⟩ := HRM11.out.set (b := p9) (o' := .cells #[.int .i64 x.gen, .int .i64 x.flushed, .int .i64 x.next, .int .i64 x.low, .int .i64 x.clock, .slice (some ⟨g, 0, none⟩) m1 kc, .slice (some ⟨gl, 0, none⟩) i lc] 25 (0, 0)) (R' := ((p2, .cells #[.int .i64 0, .int .i64 0, .int .i64 0, .int .i64 0, .int .i64 0, .slice none 0 0, .slice none 0 0] 25 (0, 0)) :: (p1, .cells #[.int .i64 x.gen, .int .i64 x.flushed, .int .i64 x.next, .int .i64 x.low, .int .i64 x.clock, .slice s1 m1 d1, .slice s2 i d2] 25 (0, 0)) :: R)) (.head _) (Upd.cell_only W11 p9 6 (.slice (some ⟨gl, 0, none⟩) i lc)) hs12 (fun y hy => ⟨.tail _ hy, fun e => by
                    rcases List.mem_cons.1 hy with h1 | h1
                    · rw [h1] at e; exact HNE9.out.2 e.symm
                    · rcases List.mem_cons.1 h1 with h2 | h2
                      · rw [h2] at e; exact HNE9.out.1 e.symm
                      · exact HNR9.out y h2 e⟩)
                  have HRM12 := hid hrm12; have HUP13 := hid (HUP12.out.trans hup12 (fun _ _ e => e))
                  clear hlt9 e1 i2 i3 c1 c2 hbg t1 t2 hbox z0 z1 z2 z3 z4 z5 f0 f1 f2 f3 f4 f5 hs12 hrm12 hup12 HRM11 HUP12
                  go_upto_region 22 with fail
                  generalize W11.setCell ⟨p9, 6, none⟩ (.slice (some ⟨gl, 0, none⟩) i lc) = W12 at HRM12 HUP13 ⊢
                  clear t0 hpl z6 f6 hzl hc0 hil hili hi0
                  obtain ⟨⟨z0, z1, z2, z3, z4, z5, z6⟩, -, hzl⟩ := verCells (HRM12.out.get (b := p9) (.head _)).1
                  have hb2 := (HRM12.out.get (b := p2) (.tail _ (.head _))).1
                  obtain ⟨⟨y0, y1, y2, y3, y4, y5, y6⟩, ⟨f0, f1, f2, f3, f4, f5, f6⟩, hyl⟩ := verCells hb2
                  have HO := hid (verOut_at hb2 x.gen x.flushed x.next x.low x.clock (.slice (some ⟨g, 0, none⟩) m1 kc) (.slice (some ⟨gl, 0, none⟩) i lc))
                  obtain ⟨hrm13, hup13⟩ := HRM12.out.set (b := p2) (R' := R) (.tail _ (.head _)) (verOut_upd (S := fun k => k = p2) (Upd.refl _ W12) (p := p2) (fun _ => rfl) x.gen x.flushed x.next x.low x.clock (.slice (some ⟨g, 0, none⟩) m1 kc) (.slice (some ⟨gl, 0, none⟩) i lc)) HO.out (fun y hy => ⟨.tail _ (.tail _ (.tail _ hy)), fun e => HNR2.out y hy e⟩)
                  have HRM13 := hid hrm13; have HUP14 := hid (HUP13.out.trans hup13 (fun _ _ e => e))
                  clear hb2 hrm13 hup13 HUP13
                  go_wp2
                  (try simp only [Exit.inBlock, Exit.then])
                  refine bodyPost_ret (results_ver1 rfl _ _ p2 _ rfl rfl HO.out) rfl ?_
                  obtain ⟨gs, cs, gl', cl, e1, e2, -, -, hver⟩ := HRM13.out.ver HLT9.out HLN.out
                  injection e2 with i1 i2 i3
                  injection i1 with i1
                  injection i1 with i1
                  subst i1; subst i3
                  rw [HRV.out] at e1
                  injection e1 with j1 j2 j3
                  injection j1 with j1
                  injection j1 with j1
                  subst j1; subst j3
                  rw [← HM1.out, ← HNX.out] at hver
                  exact ⟨_, _, Ms, _, k', ds, rfl, HRM13.out.sub (fun y hy => .tail _ hy), HLT.out, HLN.out, HUP14.out, hver, by rw [HML.out]; have := HLT.out.big; omega, by rw [HDL.out]; exact hds⟩

end Go.Proofs.YtgaidmohdhaonaaGreatDoor
