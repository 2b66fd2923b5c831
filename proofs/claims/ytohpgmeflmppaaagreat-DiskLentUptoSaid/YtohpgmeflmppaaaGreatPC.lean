/-
  tells, walked: List.
  Package disk, walked: Counts.
-/
import Derived.Test.YtohpgmeflmppaaaGreatPB
namespace Go.Proofs.YtohpgmeflmppaaaGreat
set_option linter.unusedVariables false
set_option linter.unusedSimpArgs false
set_option linter.unnecessarySimpa false
set_option linter.unusedSectionVars false
open Go Go.RowKit

theorem owns_set {w : World} {base : Nat} {e : TypeId} {n k : Nat} {v u : Value} {xs : List Value} (h : w.ownsRow base e 1 v n xs) (hk : k < n) : ∃ g cap old, v = .slice (some ⟨g, 0, none⟩) n cap ∧ (w.setCell ⟨g, k, none⟩ u).ownsRow base e 1 v n (xs.set k u) ∧
    w.cell? ⟨g, k, none⟩ = some old ∧ w.frozen? ⟨g, k, none⟩ = false ∧ g < w.heap.size ∧ base ≤ g ∧ n ≤ cap ∧ cap ≤ maxLen := by
  obtain ⟨hl, hr⟩ := h
  rcases hr with ⟨rfl, hz⟩ | ⟨g, cap, cur, rfl, hb, hg, h1, h2, h3, h4⟩
  · omega
  · have hkc : k < cur.size := by omega
    refine ⟨g, cap, cur[k], rfl, ⟨by rw [List.length_set]; exact hl, .inr ⟨g, cap, cur.setIfInBounds k u, rfl, hb, heap_setCell_at _ _ _ _ _ _ hg, h1, h2, by simpa using h3, ?_⟩⟩, ?_, frozen_of_row _ _ _ _ _ hg, lt_of_heap hg, hb, h1, h2⟩
    · rw [Array.toList_setIfInBounds, List.take_set, h4]
    · rw [cell_of_row w g k cur _ _ hg, Array.getElem?_eq_getElem hkc]

set_option maxRecDepth 100000 in
set_option maxHeartbeats 3200000 in
theorem tells_list {w0 w : World} {S : WS} {o : OpI} {i : Nat} (hw : WOn w0 w S) (hi : i < S.ds.length) (hi' : i < S.rs.length) (ho : OpShapes o) (hk : o.kind = 8) :
    Calls Tryz.prog 46 #[.pointer (some ⟨S.p, 0, none⟩), .agg o.cells, ptrD S.ds[i], ptrR S.rs[i]] w fun e w' => Acted w0 w S e w' := by
  obtain ⟨ba, bc, ca, cl, cc, fa, fl, fc, hb1, hc1, hf1⟩ := ho.get
  have hcells : o.cells = #[.int .i64 8, .int .i64 o.obj, .string o.name, .string o.dest, .slice ba o.bs.length bc, .int .i64 o.pos, .int .i64 o.n, .slice ca cl cc, .slice fa fl fc] := by unfold OpI.cells; rw [hk, hb1, hc1, hf1]
  rw [hcells]
  obtain ⟨hal, hso⟩ := hw.pair i hi hi'
  obtain ⟨l, hl⟩ : ∃ l, l = listNames S.ds[i] o.name := ⟨_, rfl⟩
  have hlr : listR S.rs[i].F o.name = l := by rw [hl]; exact listR_same (hw.mem.dsIn i hi) hal hso o.name
  have HD := hid (show ∀ W, Upd (fun _ => False) w W → Calls Tryz.prog 12 #[.pointer (some ⟨S.ds[i].p, 0, none⟩), .string o.name] W fun e W' => ∃ v n, e = .returned v ∧ W'.ownsRow W.heap.size 9 1 v n (l.map Value.string) ∧ Upd (fun _ => False) W W' from fun W hW => by
    rw [hl]
    exact list_any ((hw.mem.keep hW).dsIn i hi) o.name)
  have HR := hid (show ∀ W, Upd (fun _ => False) w W → Calls Tryz.prog 14 #[.pointer (some ⟨S.rs[i].p, 0, none⟩), .string o.name] W fun e W' => ∃ v n, e = .returned v ∧ W'.ownsRow W.heap.size 9 1 v n (l.map Value.string) ∧ Upd (fun _ => False) W W' from fun W hW => by
    rw [← hlr]
    exact refList_any ((hw.mem.keep hW).rsIn i hi') o.name)
  have hlen256 : l.length ≤ 256 := by
    rw [hl]
    have h1 := (hw.mem.dsIn i hi).count
    have h2 : (listNames S.ds[i] o.name).length ≤ (sortNames S.ds[i].names).length := List.length_filter_le _ _
    have h3 := (sortNames_perm S.ds[i].names).length_eq
    have h4 : S.ds[i].names.length = S.ds[i].recs.length := by simp [DS.names]
    omega
  have HW := hid hw; have HL := hid hlen256
  unfold ptrD ptrR
  obtain ⟨dp, hdp⟩ : ∃ dp, dp = S.ds[i].p := ⟨_, rfl⟩
  obtain ⟨rp, hrp⟩ : ∃ rp, rp = S.rs[i].p := ⟨_, rfl⟩
  rw [← hdp] at HD
  rw [← hrp] at HR
  rw [← hdp, ← hrp]
  clear hw ho hb1 hc1 hf1 hcells hdp hrp hk hal hso hl hlr hlen256
  go_enter Tryz.func46, Tryz.ntmps46
  go_wp2_with fail
  obtain ⟨wb, hwb⟩ : ∃ wb, wb = w.alloc (.cells #[.int .i64 8, .int .i64 o.obj, .string o.name, .string o.dest, .slice ba o.bs.length bc, .int .i64 o.pos, .int .i64 o.n, .slice ca cl cc, .slice fa fl fc] 42) := ⟨_, rfl⟩
  rw [← hwb]
  obtain ⟨fb, hfb⟩ : ∃ fb, fb = w.heap.size := ⟨_, rfl⟩
  rw [← hfb]
  have hbx : wb.heap[fb]? = some (.cells #[.int .i64 8, .int .i64 o.obj, .string o.name, .string o.dest, .slice ba o.bs.length bc, .int .i64 o.pos, .int .i64 o.n, .slice ca cl cc, .slice fa fl fc] 42 (0, 0)) := by rw [hwb, hfb]; exact heap_alloc_new w _
  have hub : Upd (fun _ => False) w wb := by rw [hwb]; exact (Upd.refl _ _).alloc _
  have hfl : fb < wb.heap.size := lt_of_heap hbx
  have hsz : w.heap.size ≤ wb.heap.size := hub.size
  have HUB := hid hub; have HBX := hid hbx
  have HCELL := hid (show ∀ W, Upd (fun _ => False) wb W → W.cell? ⟨fb, 2, none⟩ = some (.string o.name) ∧ fb < W.heap.size from fun W hW => ⟨by rw [cell_of_row W _ 2 _ _ _ (hW.get hbx (fun h => h))]; rfl, Nat.lt_of_lt_of_le hfl hW.size⟩)
  clear hwb hfb hub hbx
  refine (HD.out _ HUB.out).mono ?_
  rintro e w2 ⟨v1, n1, rfl, hr1, hu1⟩
  obtain ⟨a1, k1, rfl, e1, -⟩ := owns_shape hr1
  rw [List.length_map] at e1
  subst e1
  obtain ⟨b2, hfl2⟩ := HCELL.out w2 hu1
  have HR1 := hid hr1; have HU1 := hid hu1
  have HU2 := hid (HUB.out.trans hu1 (fun _ _ h => h))
  clear hr1 hu1
  go_wp2_with fail
  refine (HR.out _ HU2.out).mono ?_
  rintro e w3 ⟨v2, n2, rfl, hr2, hu2⟩
  have hsm := (sameNames_any (owns_upd HR1.out hu2 (fun _ _ h => h)) hr2)
  have HSM := hid hsm
  have HR3 := hid (owns_upd HR1.out hu2 (fun _ _ h => h))
  have HU3 := hid (HU1.out.trans hu2 (fun _ _ h => h))
  clear hr2 hu2 hsm b2
  go_wp2_with fail
  refine HSM.out.mono ?_
  rintro e w4 ⟨rfl, hu4⟩
  have HR4 := hid (owns_upd HR3.out hu4 (fun _ _ h => h))
  have HU4 := hid (HU3.out.trans hu4 (fun _ _ h => h))
  have hl256 := HL.out
  obtain ⟨N, hN⟩ : ∃ N, N = l.length := ⟨_, rfl⟩
  rw [← hN] at HR4 hl256 ⊢
  have HN := hid hN
  clear hu4 hN
  go_wp2
  go_loopw [20] (fun iv wr => ∃ k : Nat, k ≤ N ∧ iv = .int .i64 k ∧ Upd (fun _ => False) wb wr ∧ ∃ xs, wr.ownsRow wb.heap.size 9 1 (.slice a1 N k1) N xs) (fun iv _ => N - (intOf iv).toNat)
  case atStart => exact ⟨0, Nat.zero_le _, rfl, HU4.out, _, HR4.out⟩
  case round =>
    obtain ⟨k, hk, rfl, hup, xs, hrow⟩ := hrel
    have HUP := hid hup; have HROW := hid hrow
    by_cases hlt : k < N
    · obtain ⟨g, cap, old, hv, hset, d0, d1, d2, d3, d4, d5⟩ := owns_set (u := .string ⟨#[109, 97, 114, 107]⟩) hrow hlt
      injection hv with hv1 _ hv3
      subst hv1 hv3
      have HSET := hid hset
      have d6 : k1 ≤ 9223372036854775807 := by simpa [maxLen] using d5
      have HD3 := hid d3
      clear hup hrow hset d5
      go_wp2
      go_roundw
      case rel => exact ⟨k + 1, by omega, by go_num, HUP.out.setCell (p := ⟨g, k, none⟩) (fun h => by have := HD3.out; exact absurd h (by show ¬ g < wb.heap.size; omega)) _, _, HSET.out⟩
      case measure => simp [intOf]; omega
    · obtain rfl : k = N := by omega
      obtain ⟨i0, hi0, hz0, hz1, hz2⟩ := info_parts Tryz.info9'
      have hbsz : wb.heap.size ≤ wr.heap.size := hup.size
      obtain ⟨v5, w5, hrun5, hown5, hgr5, -, hat5⟩ := run_append_own_at (P := Tryz.prog) (wr.alloc (.cells #[.string ⟨#[109, 111, 114, 101]⟩] 9)) wb.heap.size 59 59 9 i0 _ 1 16 Tryz.underlying59 hi0 hz0 hz1 hz2 rfl (by omega) (.slice a1 k k1) k xs (hrow.alloc _) ⟨wr.heap.size, 0, none⟩ 1 1 [.string ⟨#[109, 111, 114, 101]⟩] rfl (by
        intro j u hu
        have hb0 := heap_alloc_new wr (.cells #[.string ⟨#[109, 111, 114, 101]⟩] 9)
        match j, hu with
        | 0, hu => simp at hu; subst hu; rw [show (Addr.add ⟨wr.heap.size, 0, none⟩ 0 : Addr) = ⟨wr.heap.size, 0, none⟩ from by simp [Addr.add], cell_of_row _ _ 0 _ _ _ hb0]; rfl
        | j + 1, hu => simp at hu) (by
        intro u hu
        simp only [List.mem_cons, List.not_mem_nil, or_false] at hu
        subst hu
        rfl) (by unfold maxLen; omega) (by omega) (by simp; omega)
      obtain ⟨a5, k5, hv5, -, -⟩ := owns_shape hown5
      obtain ⟨K1, hK1⟩ : ∃ K1, K1 = k + 1 := ⟨_, rfl⟩
      rw [← hK1] at hv5 hown5
      subst hv5
      have hgl : ((K1 : Int) == (k : Int) + 1) = true := by simp; omega
      have hgl3 : ((K1 : Int) == IntKind.i64.wrap ((k : Int) + 1)) = true := by rw [IntKind.wrap_i64]; simp; omega
      have hgl2 : (K1 : Int) ≤ 1000000 := by omega
      have hu5 : Upd (fun _ => False) wb w5 := (HUP.out.alloc _).grown hgr5 (fun b hb hlt => by have := (hrow.lt b hb).1; omega)
      have HRUN5 := hid hrun5; have HU5 := hid hu5
      obtain ⟨c2', hfl5⟩ := HCELL.out w5 hu5
      clear hup hrow hrun5 hown5 hgr5 hat5 hu5 hbsz hK1
      go_upto_region 20 with (at_builtin; refine wpList_append_run rfl _ _ _ rfl rfl rfl HRUN5.out ?_)
      have HU5d := hid (show Upd (fun _ => False) wb w5.drew from HU5.out.drew)
      go_region_held3 (fun W => W.cell? ⟨fb, 2, none⟩ = some (.string o.name))
        (first
          | go_keep
          | exact (HCELL.out _ huz).1
          | exact (HCELL.out _ huy).1
          | exact (HCELL.out _ hux).1)
        (first
          | (go_at_call 12; refine (HD.out _ (by first | exact HUB.out.trans huy (fun _ _ h => h) | exact HUB.out.trans HU5d.out (fun _ _ h => h))).mono ?_; rintro e wx ⟨y1, m1, rfl, hq1, h0x⟩; have hux : Upd (fun _ => False) wb wx := (by first | exact huy.trans h0x (fun _ _ h => h) | exact HU5d.out.trans h0x (fun _ _ h => h)))
          | (go_at_call 14; refine (HR.out _ (by first | exact HUB.out.trans hux (fun _ _ h => h) | exact HUB.out.trans HU5d.out (fun _ _ h => h))).mono ?_; rintro e wy ⟨y2, m2, rfl, hq2, h0y⟩; have huy : Upd (fun _ => False) wb wy := (by first | exact hux.trans h0y (fun _ _ h => h) | exact HU5d.out.trans h0y (fun _ _ h => h)))
          | (go_at_call 13; refine (sameNames_any (by first | exact hq1 | exact owns_upd hq1 h0y (fun _ _ h => h)) (by first | exact hq2 | exact owns_upd hq2 h0x (fun _ _ h => h))).mono ?_; rintro e wz ⟨rfl, h0z⟩; have huz : Upd (fun _ => False) wb wz := (by first | exact huy.trans h0z (fun _ _ h => h) | exact hux.trans h0z (fun _ _ h => h)))
          | fail)
      all_goals
        have HUF := hid (HUB.out.trans huz (fun _ _ h => h))
        go_wp2
        go_ret
        exact ⟨by first | rfl | simp, _, HW.out.keep HUF.out, rfl, rfl, rfl, id, Turn.keep _ _ HUF.out⟩

end Go.Proofs.YtohpgmeflmppaaaGreat

namespace Go.Proofs.YtohpgmeflmppaaaGreat
set_option linter.unusedVariables false
set_option linter.unusedSimpArgs false
set_option linter.unnecessarySimpa false
set_option linter.unusedSectionVars false
open Go Go.RowKit

def cntV (c : Cnt) : Value := .agg #[.int .i64 c.acts, .int .i64 c.appends, .int .i64 c.syncs, .int .i64 c.renames, .int .i64 c.deletes, .int .i64 c.reads]

set_option maxHeartbeats 400000 in
theorem counts_any {w : World} {s : DS} (hs : s.In w) :
    Calls Tryz.prog 84 #[.pointer (some ⟨s.p, 0, none⟩)] w fun e w' => e = .returned (cntV s.cnt) ∧ Upd (fun _ => False) w w' := by
  have c5 : w.cell? ⟨s.p, 5, none⟩ = some (.int .i64 s.cnt.acts) := hs.cell 5
  have c6 : w.cell? ⟨s.p, 6, none⟩ = some (.int .i64 s.cnt.appends) := hs.cell 6
  have c7 : w.cell? ⟨s.p, 7, none⟩ = some (.int .i64 s.cnt.syncs) := hs.cell 7
  have c8 : w.cell? ⟨s.p, 8, none⟩ = some (.int .i64 s.cnt.renames) := hs.cell 8
  have c9 : w.cell? ⟨s.p, 9, none⟩ = some (.int .i64 s.cnt.deletes) := hs.cell 9
  have c10 : w.cell? ⟨s.p, 10, none⟩ = some (.int .i64 s.cnt.reads) := hs.cell 10
  have hp := hs.plt
  clear hs
  unfold cntV
  go_enter Tryz.func84, Tryz.ntmps84
  go_wp2
  go_returns
  exact ⟨rfl, (Upd.refl _ _).alloc _⟩

end Go.Proofs.YtohpgmeflmppaaaGreat
