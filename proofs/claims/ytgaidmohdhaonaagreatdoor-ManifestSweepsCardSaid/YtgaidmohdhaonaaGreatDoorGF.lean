/-
  Package disk, walked: Crash.
-/
import Derived.Test.YtgaidmohdhaonaaGreatDoorGE
namespace Go.Proofs.YtgaidmohdhaonaaGreatDoor
set_option linter.unusedVariables false
set_option linter.unusedSimpArgs false
set_option linter.unnecessarySimpa false
set_option linter.unusedSectionVars false
open Go Go.RowKit

/-- v is a slice that reads as these ints. -/
def IntsAt (w : World) (v : Value) (xs : List Int) : Prop :=
  ∃ ao cap, v = .slice ao xs.length cap ∧ xs.length ≤ 9223372036854775807 ∧ ∀ k (_ : k < xs.length), ∃ a : Addr, ao = some a ∧ a.spot = none ∧ ∀ j (hj : j < xs.length), w.cell? ⟨a.block, a.off + j, none⟩ = some (.int .i64 xs[j])

/-- How many bytes of a tail stay. -/
def keepOf (cuts : List Int) (k tail : Nat) : Nat := if k < cuts.length then (min (max (cuts.getD k 0) 0) tail).toNat else 0

/-- The file of a name, behind a crash; k: how many tails there were ahead of it. -/
def crashStep (cuts : List Int) (st : List FileA × Nat) (n : ByteArray) : List FileA × Nat :=
  match st.1.find? (fun f => f.name == n) with
  | none => st
  | some f =>
    if f.data.length ≤ f.synced then st
    else (updA st.1 n (fun g => { g with synced := f.synced + keepOf cuts st.2 (f.data.length - f.synced), data := f.data.take (f.synced + keepOf cuts st.2 (f.data.length - f.synced)) }), st.2 + 1)

def crashF (cuts : List Int) (l : List FileA) : List FileA × Nat := (sortNames (l.map (·.name))).foldl (crashStep cuts) (l, 0)

theorem keepOf_le (cuts : List Int) (k tail : Nat) : keepOf cuts k tail ≤ tail := by
  unfold keepOf
  split
  · omega
  · omega

theorem foldl_take_step {α β : Type} (f : α → β → α) (a : α) (l : List β) (k : Nat) (h : k < l.length) : (l.take (k + 1)).foldl f a = f ((l.take k).foldl f a) l[k] := by
  rw [List.take_succ_eq_append_getElem h, List.foldl_append]; rfl

theorem find_abs {s : DS} {n : ByteArray} {r : FRec} (h : s.fileAt n = some r) : (s.recs.map FRec.abs).find? (fun f => f.name == n) = some r.abs := by
  rw [List.find?_map]
  show Option.map FRec.abs (s.recs.find? (fun r => r.name == n)) = _
  unfold DS.fileAt at h
  rw [h]; rfl

theorem setRec_names (l : List FRec) (r' : FRec) : (setRec l r').map (·.name) = l.map (·.name) := by
  unfold setRec
  rw [List.map_map]
  apply List.map_congr_left
  intro x _
  simp only [Function.comp]
  split
  · rename_i h; exact h.symm
  · rfl

/-- One file is cut. -/
theorem DS.In.cut {w w' : World} {s : DS} (h : s.In w) {r : FRec} (hr : r ∈ s.recs) {g cap y : Nat} (hdv : r.dv = .slice (some ⟨g, 0, none⟩) r.data.length cap) (hy1 : r.synced ≤ y) (hy2 : y ≤ r.data.length)
    (hu : Upd (fun k => k = s.p ∨ k = r.blk) w w') (hf : w'.heap[r.blk]? = some (.cells #[.slice (some ⟨g, 0, none⟩) y y, .int .i64 y] 155 (0, 0)))
    (ht : w'.heap[s.p]? = some (.cells ({ s with recs := setRec s.recs { r with dv := .slice (some ⟨g, 0, none⟩) y y, data := r.data.take y, synced := y } } : DS).cells 122 (0, 0))) :
    Step w w' s { s with recs := setRec s.recs { r with dv := .slice (some ⟨g, 0, none⟩) y y, data := r.data.take y, synced := y } } := by
  have hfi := h.files r hr
  have hlen : (r.data.take y).length = y := by simp; omega
  have hgb : r.dv.ownBlock = some g := by rw [hdv]; rfl
  have hgne : g ≠ s.p := h.p_ne_blk hr (by simp [FRec.blocks, hgb])
  have hgr : g ≠ r.blk := by
    have hb := h.blocks
    obtain ⟨pre, post, e1, -⟩ := setRec_split h.names hr (r' := r) rfl
    rw [DS.blocks, e1] at hb
    intro e
    simp [recBlocks, FRec.blocks, hgb, e, List.nodup_append] at hb
  refine h.turned (r := r) (r' := { r with dv := .slice (some ⟨g, 0, none⟩) y y, data := r.data.take y, synced := y }) hr rfl rfl rfl rfl rfl rfl h.armed (hu.mono (fun k _ e => e.imp id (fun e => by simp [FRec.blocks, e]))) ⟨hf, ?_, ?_, hfi.name⟩ ht ?_ ?_
  · have hd := hfi.data
    rw [hdv] at hd
    rcases hd with ⟨e, _⟩ | ⟨g', cap', cur, hv, h1, h2, h3, h4, h5⟩
    · cases e
    · simp only [Value.slice.injEq, Option.some.injEq, Addr.mk.injEq] at hv
      obtain ⟨⟨rfl, -, -⟩, -, rfl⟩ := hv
      refine .inr ⟨g, y, cur, by rw [hlen], hu.get h1 (fun e => e.elim hgne hgr), Nat.le_of_eq hlen, Nat.le_trans hy2 (Nat.le_trans h2 h3), Nat.le_trans hy2 (Nat.le_trans h2 h4), ?_⟩
      rw [hlen, List.map_take, ← h5, List.take_take, Nat.min_eq_left hy2]
  · show y ≤ (r.data.take y).length
    omega
  · have h1 := h.room
    have h2 := usedOf_setRec h.names hr (r' := { r with dv := .slice (some ⟨g, 0, none⟩) y y, data := r.data.take y, synced := y }) rfl
    show usedOf (setRec s.recs { r with dv := .slice (some ⟨g, 0, none⟩) y y, data := r.data.take y, synced := y }) ≤ s.cap
    simp only [hlen] at h2
    unfold DS.used at h1
    omega
  · intro k hk
    simp only [Value.ownBlock, Option.some.injEq] at hk
    subst hk; exact .inl hgb

set_option maxRecDepth 100000 in
set_option maxHeartbeats 6400000 in
theorem crash_any {w : World} {s : DS} (hs : s.In w) {cv : Value} {cuts : List Int} (hcv : IntsAt w cv cuts) (hout : ∀ a l c, cv = .slice (some a) l c → 0 < l → a.block ∉ s.blocks ∧ a.block < w.heap.size) :
    Calls Tryz.prog 40 #[.pointer (some ⟨s.p, 0, none⟩), cv] w fun e w' =>
      e = .returned (.int .i64 (crashF cuts s.abs.files).2) ∧ ∃ s2, Step w w' s s2 ∧ s2.abs = { s.abs with files := (crashF cuts s.abs.files).1, down := false, armed := 0 } := by
  have HN := hid (names_any hs)
  have hcount : s.names.length ≤ 256 := by simpa [DS.names] using hs.count
  have HS := hid hs
  obtain ⟨cao, ccap, rfl, hcl, hcc⟩ := hcv
  have HCC := hid hcc; have HOUT := hid hout
  have hplt := hs.plt
  clear hs hcc hout
  go_enter Tryz.func40, Tryz.ntmps40
  go_wp2_with fail
  refine HN.out.mono ?_
  rintro e w1 ⟨v, n, rfl, hown, hu⟩
  obtain ⟨ao, cap, rfl, hn, hcells⟩ := owns_shape hown
  have hlen : n = (sortNames s.names).length := by simpa using hn
  have hlen2 : (sortNames s.names).length = s.names.length := (sortNames_perm s.names).length_eq
  have hn256 : n ≤ 256 := by omega
  have HU := hid hu; have HC := hid hcells; have HL := hid hlen
  have HS1 := hid (HS.out.upd hu (fun _ _ h => h))
  clear hown hu hcells hlen hlen2 hn hcount
  go_wp2
  go_loopw [5, 14] (fun tv i wr => ∃ k : Nat, k ≤ n ∧ i = .int .i64 k ∧ ∃ (sk : DS) (t : Nat), t ≤ k ∧ tv = .int .i64 t ∧ Step w1 wr s sk ∧ sk.cap = s.cap ∧ sk.down = s.down ∧ sk.armed = s.armed ∧ sk.cnt = s.cnt ∧ sk.names = s.names ∧
      (sk.recs.map FRec.abs, t) = ((sortNames s.names).take k).foldl (crashStep cuts) (s.abs.files, 0)) (fun _ i _ => n - (intOf i).toNat)
  case atStart => exact ⟨0, Nat.zero_le _, rfl, s, 0, Nat.le_refl _, rfl, Step.refl HS1.out, rfl, rfl, rfl, rfl, rfl, rfl⟩
  case round =>
    obtain ⟨k, hk, rfl, sk, t, htk, rfl, hst, e1, e2, e3, e4, e5, habs⟩ := hrel
    have HST := hid hst; have HA := hid habs; have E1 := hid e1; have E2 := hid e2; have E3 := hid e3; have E4 := hid e4; have E5 := hid e5
    have hskp := hst.p
    have HP := hid hskp
    clear hst habs e1 e2 e3 e4 e5
    by_cases hlt : k < n
    · obtain ⟨g, rfl, hg1, hg2, hg3⟩ := HC.out k hlt
      have hkl : k < (sortNames s.names).length := by have := HL.out; omega
      obtain ⟨x, hx⟩ : ∃ x, x = (sortNames s.names)[k] := ⟨_, rfl⟩
      have hcell : wr.cell? ⟨g, k, none⟩ = some (.string x) := by
        rw [HST.out.other (fun hm => by have := HS.out.lt g hm; omega) hg2, hx]
        have := hg3 k (by simpa using hkl)
        simpa using this
      have hxm : x ∈ sk.names := by rw [E5.out]; exact (sortNames_perm s.names).subset (hx ▸ List.getElem_mem hkl)
      obtain ⟨r, hfr⟩ := fileAt_of_name hxm
      obtain ⟨hrm, hrn⟩ := fileAt_mem hfr
      have hsk := HST.out.ins
      have hstep : ((sortNames s.names).take (k + 1)).foldl (crashStep cuts) (s.abs.files, 0) = crashStep cuts (sk.recs.map FRec.abs, t) x := by
        rw [foldl_take_step _ _ _ k hkl, ← HA.out, hx]
      have cm := hsk.c_map
      have hlk := run_lookup_file hsk x
      unfold DS.ptrAt at hlk
      rw [hfr] at hlk
      simp only [] at hlk
      have hfi := hsk.files r hrm
      have c0 := hfi.c_dv
      have c1 := hfi.c_synced
      have f0 := frozen_of_row wr r.blk 0 _ _ hfi.cells
      have f1 := frozen_of_row wr r.blk 1 _ _ hfi.cells
      have cu := hsk.c_used
      have fu := hsk.free 1
      have hdl := hsk.data_le hrm
      have hle := hfi.synced
      have hrp : r.blk ≠ sk.p := hsk.blk_ne_p hrm
      rw [HP.out] at cm cu fu hrp
      have HSK := hid hsk; have HFI := hid hfi; have HRM := hid hrm; have HFR := hid (find_abs hfr)
      have hshape := hfi.data.shape
      have hul := le_usedOf hrm
      have hus : sk.used ≤ 67108864 := by have := hsk.room; have := hsk.cap; omega
      have hul' : r.data.length ≤ sk.used := hul
      clear hg3 hx hxm hfr hfi hsk hul
      by_cases htl : r.data.length ≤ r.synced
      · obtain ⟨ao', cap', hdv, -, -, -, -⟩ := hshape
        rw [hdv] at c0
        have hq : (((r.data.length : Int) - (r.synced : Int)) == 0) = true := by simp; omega
        have hcs : crashStep cuts (sk.recs.map FRec.abs, t) x = (sk.recs.map FRec.abs, t) := by
          unfold crashStep
          rw [HFR.out]
          exact if_pos htl
        have H1 := hid (hstep.trans hcs)
        clear hstep hcs htl hdv
        go_wp2_with fail
        go_quiet (fail)
        go_wp2
        go_roundw
        case rel => exact ⟨k + 1, by omega, by go_num, sk, t, by omega, rfl, HST.out.trans (Step.of_upd HSK.out ((Upd.refl _ _).drewN _)), E1.out, E2.out, E3.out, E4.out, E5.out, H1.out.symm⟩
        case measure => simp [intOf]; omega
      · have hq : (((r.data.length : Int) - (r.synced : Int)) == 0) = false := by simp; omega
        obtain ⟨kp, hkp⟩ : ∃ kp, kp = keepOf cuts t (r.data.length - r.synced) := ⟨_, rfl⟩
        have hkl2 : kp ≤ r.data.length - r.synced := by rw [hkp]; exact keepOf_le _ _ _
        have hcs : crashStep cuts (sk.recs.map FRec.abs, t) x = (updA (sk.recs.map FRec.abs) x (fun f => { f with synced := r.synced + kp, data := r.data.take (r.synced + kp) }), t + 1) := by
          unfold crashStep
          rw [HFR.out]
          refine (if_neg htl).trans ?_
          rw [hkp]; rfl
        have H1 := hid (hstep.trans hcs)
        have HKP := hid hkp
        clear hstep hcs hkp
        obtain ⟨ao', cap', hdv, hcap1, hcap2, hnone, hsome⟩ := hshape
        cases ao' with
        | none => exact absurd (hnone rfl).1 (by intro h; rw [h] at htl; simp at htl)
        | some ad =>
          obtain ⟨z1, z2, -, -⟩ := hsome ad rfl
          obtain ⟨gd, od, spd⟩ := ad
          simp only at z1 z2
          subst z1 z2
          rw [hdv] at c0
          have hcap2' : cap' ≤ 9223372036854775807 := by simpa [maxLen] using hcap2
          have HDV := hid hdv
          clear hsome hnone hcap2 hdv
          have hcut : Step wr (((wr.setCell ⟨r.blk, 1, none⟩ (.int .i64 ((r.synced : Int) + (kp : Int)))).setCell ⟨s.p, 1, none⟩ (.int .i64 ((sk.used : Int) - ((r.data.length : Int) - (r.synced : Int) - (kp : Int))))).setCell ⟨r.blk, 0, none⟩ (.slice (some ⟨gd, 0, none⟩) (r.synced + kp) (r.synced + kp))) sk
              { sk with recs := setRec sk.recs { r with dv := .slice (some ⟨gd, 0, none⟩) (r.synced + kp) (r.synced + kp), data := r.data.take (r.synced + kp), synced := r.synced + kp } } := by
            refine HSK.out.cut HRM.out HDV.out (by omega) (by omega) (((((Upd.refl _ wr).setCell (fun _ => .inr rfl) _).setCell (fun _ => .inl HP.out.symm) _)).setCell (fun _ => .inr rfl) _) ?_ ?_
            · have q1 := heap_setCell_at wr r.blk 1 _ _ (.int .i64 ((r.synced : Int) + (kp : Int))) HFI.out.cells
              have q2 : ((wr.setCell ⟨r.blk, 1, none⟩ (.int .i64 ((r.synced : Int) + (kp : Int)))).setCell ⟨s.p, 1, none⟩ (.int .i64 ((sk.used : Int) - ((r.data.length : Int) - (r.synced : Int) - (kp : Int))))).heap[r.blk]? = _ := (heap_setCell_ne _ _ _ _ hrp).trans q1
              rw [heap_setCell_at _ _ _ _ _ _ q2]
              rfl
            · rw [heap_setCell_ne _ _ _ _ (by rw [HP.out]; exact hrp.symm), HP.out]
              have q1 : (wr.setCell ⟨r.blk, 1, none⟩ (.int .i64 ((r.synced : Int) + (kp : Int)))).heap[s.p]? = some (.cells sk.cells 122 (0, 0)) := by
                rw [heap_setCell_ne _ _ _ _ hrp.symm, ← HP.out]; exact HSK.out.top
              rw [heap_setCell_at _ _ _ _ _ _ q1]
              have hlen : (r.data.take (r.synced + kp)).length = r.synced + kp := by simp; omega
              have hu2 := usedOf_setRec HSK.out.names HRM.out (r' := { r with dv := .slice (some ⟨gd, 0, none⟩) (r.synced + kp) (r.synced + kp), data := r.data.take (r.synced + kp), synced := r.synced + kp }) rfl
              simp only [hlen] at hu2
              have hu3 : (sk.used : Int) - ((r.data.length : Int) - (r.synced : Int) - (kp : Int)) = ((usedOf (setRec sk.recs { r with dv := .slice (some ⟨gd, 0, none⟩) (r.synced + kp) (r.synced + kp), data := r.data.take (r.synced + kp), synced := r.synced + kp }) : Nat) : Int) := by
                unfold DS.used; omega
              rw [hu3]; rfl
          have habs : (setRec sk.recs { r with dv := .slice (some ⟨gd, 0, none⟩) (r.synced + kp) (r.synced + kp), data := r.data.take (r.synced + kp), synced := r.synced + kp }).map FRec.abs = updA (sk.recs.map FRec.abs) x (fun f => { f with synced := r.synced + kp, data := r.data.take (r.synced + kp) }) := by
            rw [← hrn]
            exact setRec_abs (r := r) (r' := { r with dv := .slice (some ⟨gd, 0, none⟩) (r.synced + kp) (r.synced + kp), data := r.data.take (r.synced + kp), synced := r.synced + kp }) HSK.out.names HRM.out rfl rfl
          have hnames : ({ sk with recs := setRec sk.recs { r with dv := .slice (some ⟨gd, 0, none⟩) (r.synced + kp) (r.synced + kp), data := r.data.take (r.synced + kp), synced := r.synced + kp } } : DS).names = s.names :=
            (setRec_names _ _).trans E5.out
          have HCUT := hid hcut; have HAB := hid habs; have HNM := hid hnames
          clear hcut habs hnames
          by_cases htc : t < cuts.length
          · obtain ⟨ca, hca, hcs, hcx⟩ := HCC.out t htc
            subst hca
            obtain ⟨o1, o2⟩ := HOUT.out ca _ _ rfl (by omega)
            have hcc : wr.cell? ⟨ca.block, ca.off + t, none⟩ = some (.int .i64 (cuts[t])) := by
              rw [HST.out.other (fun hm => o1 hm) (by have := HU.out.size; omega), World.cell?_of_block (w := w) (a := ⟨ca.block, ca.off + t, none⟩) (HU.out.block ca.block o2 (fun h => h))]
              exact hcx t htc
            have hkk : min (max cuts[t] 0) ((r.data.length : Int) - (r.synced : Int)) = (kp : Int) := by
              rw [HKP.out, keepOf, if_pos htc, List.getD_eq_getElem?_getD, List.getElem?_eq_getElem htc, Option.getD_some]
              omega
            obtain ⟨cb, co, cs⟩ := ca
            simp only at hcs hcc
            subst hcs
            generalize cuts[t] = ct at *
            clear hcx
            go_wp2_with fail
            go_quiet (fail)
            go_wp2_with fail
            go_region
            go_wp2
            go_roundw
            case rel => exact ⟨k + 1, by omega, by go_num, _, t + 1, by omega, by go_num, HST.out.trans (HCUT.out.trans (Step.of_upd HCUT.out.ins (show Upd (fun _ => False) _ _ from ⟨rfl, rfl, rfl, Nat.le_refl _, fun _ _ _ => rfl⟩))), E1.out, E2.out, E3.out, E4.out, HNM.out, (H1.out.trans (by rw [HAB.out])).symm⟩
            case measure => simp [intOf]; omega
          · have hkk : kp = 0 := by rw [HKP.out, keepOf, if_neg htc]
            subst hkk
            simp only [Nat.add_zero, Int.natCast_zero, Int.add_zero, Int.sub_zero] at HCUT HAB HNM H1
            have htc' : (cuts.length : Int) ≤ (t : Int) := by omega
            go_wp2_with fail
            go_quiet (fail)
            go_wp2_with fail
            go_region
            go_wp2
            go_roundw
            case rel => exact ⟨k + 1, by omega, by go_num, _, t + 1, by omega, by go_num, HST.out.trans (HCUT.out.trans (Step.of_upd HCUT.out.ins (show Upd (fun _ => False) _ _ from ⟨rfl, rfl, rfl, Nat.le_refl _, fun _ _ _ => rfl⟩))), E1.out, E2.out, E3.out, E4.out, HNM.out, (H1.out.trans (by rw [HAB.out])).symm⟩
            case measure => simp [intOf]; omega
    · obtain rfl : k = n := by omega
      have hfin : (sk.recs.map FRec.abs, t) = crashF cuts s.abs.files := by
        rw [HA.out, HL.out, List.take_length]
        unfold crashF
        rw [show s.abs.files.map (·.name) = s.names from by simp [DS.abs, DS.names, FRec.abs]]
      have hsk := HST.out.ins
      have cd := hsk.c_down
      have c4 := hsk.c_armed
      have f3 := hsk.free 3
      have f4 := hsk.free 4
      rw [HP.out] at cd c4 f3 f4
      have hst2 : Step wr ((wr.setCell ⟨s.p, 3, none⟩ (.bool false)).setCell ⟨s.p, 4, none⟩ (.int .i64 0)) sk { sk with down := false, armed := 0 } := by
        refine hsk.top_turned (((Upd.refl _ wr).setCell (fun _ => HP.out.symm) _).setCell (fun _ => HP.out.symm) _) rfl rfl rfl rfl ?_ ⟨by simp, by simp⟩
        rw [HP.out]
        rw [heap_setCell_at _ _ _ _ _ _ (heap_setCell_at _ _ _ _ _ _ (HP.out ▸ hsk.top))]
        rfl
      have H1 := hid hfin; have H2 := hid hst2
      clear hfin hst2 hsk
      go_wp2
      go_ret
      have hU := Step.of_upd HS.out HU.out
      refine ⟨by rw [← H1.out]; rfl, _, (hU.trans HST.out).trans H2.out, ?_⟩
      rw [← H1.out]
      simp [DS.abs, E1.out, E4.out]

end Go.Proofs.YtgaidmohdhaonaaGreatDoor
