/-
  stratalaw10.parts, walked.
  VersionOwn's memory: runs written full; what stands beside a disk.
  VersionOwn's lists, gathered: plain facts.
-/
import Derived.Test.YtgaidmohdhaonaaGreatDoorSH
import Derived.Test.YtgaidmohdhaonaaGreatDoorSB
import Derived.Test.YtgaidmohdhaonaaGreatDoorYH
import Derived.Test.YtgaidmohdhaonaaGreatDoorSI
import Derived.Test.YtgaidmohdhaonaaGreatDoorSE
import Derived.Test.YtgaidmohdhaonaaGreatDoorSG
namespace Go.Proofs.YtgaidmohdhaonaaGreatDoor
set_option linter.unusedVariables false
set_option linter.unusedSimpArgs false
set_option linter.unnecessarySimpa false
set_option linter.unusedSectionVars false
open Go Go.RowKit

/-- The two keys of a run. -/
def MV.keys (y : MV) : List Value := [y.f, y.l]

theorem flat_at {α : Type} {f : MV → List α} {n : Nat} (hf : ∀ y, (f y).length = n) : ∀ (L : List MV) {k j : Nat} (hk : k < L.length) (hj : j < n), (L.flatMap f)[k * n + j]? = (f L[k])[j]?
  | y :: L, 0, j, _, hj => by
    rw [List.flatMap_cons, Nat.zero_mul, Nat.zero_add, List.getElem?_append_left (by rw [hf]; exact hj)]
    rfl
  | y :: L, k + 1, j, hk, hj => by
    rw [List.flatMap_cons, List.getElem?_append_right (by rw [hf, Nat.add_mul]; omega), hf, show (k + 1) * n + j - n = k * n + j by rw [Nat.add_mul]; omega, flat_at hf L (by simpa using hk) hj]
    rfl

set_option maxRecDepth 100000 in
set_option maxHeartbeats 12800000 in
theorem parts_any {w : World} {base : Nat} {a1 a2 a3 a4 a5 : Int} {so : Option Addr} {sn sc : Nat} {rs : Value} {L : List MV} (hr : w.ownsRow base 48 8 rs L.length (L.flatMap MV.cells))
    (hf : ∀ y ∈ L, ∃ fo fn fc lo ln lc, y.f = .slice fo fn fc ∧ y.l = .slice lo ln lc) (hL : L.length ≤ 64) :
    Calls Tryz.prog 21 #[.agg #[.int .i64 a1, .int .i64 a2, .int .i64 a3, .int .i64 a4, .int .i64 a5, .slice so sn sc, rs]] w fun e w' =>
      ∃ ao c, e = .returned (.slice ao (1 + 2 * L.length) c) ∧ SRow w' 22 1 (.slice ao (1 + 2 * L.length) c) (1 + 2 * L.length) (.slice so sn sc :: L.flatMap MV.keys) ∧ (∀ q, (Value.slice ao (1 + 2 * L.length) c).ownBlock = some q → w.heap.size ≤ q) ∧ Upd (fun _ => False) w w' := by
  have HF := hid hf
  obtain ⟨ro, rc, hrs, hrl, hrc⟩ : ∃ ro rc, rs = .slice ro L.length rc ∧ L.length ≤ rc ∧ rc ≤ 9223372036854775807 := by
    rcases hr.2 with ⟨e, hz⟩ | ⟨g, cap, cur, e, -, -, h1, h2, -⟩
    · exact ⟨none, 0, by rw [e, hz], by omega, by omega⟩
    · exact ⟨_, cap, e, h1, by simpa [maxLen] using h2⟩
  subst hrs
  obtain ⟨R, hR⟩ : ∃ R, R = L.length := ⟨_, rfl⟩
  have HR := hid hr; have HRR := hid hR
  rw [← hR] at HR hrl hL ⊢
  have hu1 := (Upd.refl (fun _ => False) w).alloc (.cells #[.int .i64 a1, .int .i64 a2, .int .i64 a3, .int .i64 a4, .int .i64 a5, .slice so sn sc, .slice ro R rc] 25)
  have hb1 := heap_alloc_new w (.cells #[.int .i64 a1, .int .i64 a2, .int .i64 a3, .int .i64 a4, .int .i64 a5, .slice so sn sc, .slice ro R rc] 25)
  have HU1 := hid hu1; have HB1 := hid hb1
  obtain ⟨p, hp⟩ : ∃ p, p = w.heap.size := ⟨_, rfl⟩
  rw [← hp] at HB1
  have HP := hid hp
  clear hr hf hR hu1 hb1 hp
  go_enter Tryz.func21, Tryz.ntmps21
  go_upto_region 1 with fail
  rw [← HP.out]
  generalize w.alloc (.cells #[.int .i64 a1, .int .i64 a2, .int .i64 a3, .int .i64 a4, .int .i64 a5, .slice so sn sc, .slice ro R rc] 25) = W1 at HU1 HB1 ⊢
  obtain ⟨⟨z0, z1, z2, z3, z4, z5, z6⟩, -, hzl⟩ := verCells HB1.out
  go_upto_region 2 with fail
  have HU2 := hid ((Upd.refl (fun _ => False) W1).alloc (.cells #[.slice so sn sc] 22))
  have HR2 := hid (show SRow (W1.alloc (.cells #[.slice so sn sc] 22)) 22 1 (.slice (some ⟨W1.heap.size, 0, none⟩) 1 1) 1 [.slice so sn sc] from ⟨rfl, .inr ⟨W1.heap.size, 1, _, rfl, heap_alloc_new _ _, Nat.le_refl _, by decide, by simp, rfl⟩⟩)
  obtain ⟨g2, hg2⟩ : ∃ g, g = W1.heap.size := ⟨_, rfl⟩
  have HG2 := hid hg2
  rw [← hg2] at HR2 ⊢
  generalize W1.alloc (.cells #[.slice so sn sc] 22) = W2 at HU2 HR2 ⊢
  clear hg2 z0 z1 z2 z3 z4 z5 z6 hzl
  go_wp2
  go_loopw [3, 4] (fun lv iv wr => ∃ k : Nat, k ≤ R ∧ iv = .int .i64 k ∧ ∃ ao c, lv = .slice ao (1 + 2 * k) c ∧ SRow wr 22 1 (.slice ao (1 + 2 * k) c) (1 + 2 * k) (.slice so sn sc :: (L.take k).flatMap MV.keys) ∧ (∀ q, (Value.slice ao (1 + 2 * k) c).ownBlock = some q → W1.heap.size ≤ q) ∧ Upd (fun _ => False) W1 wr) (fun _ iv _ => R - (intOf iv).toNat)
  case atStart => exact ⟨0, Nat.zero_le _, rfl, some ⟨g2, 0, none⟩, 1, rfl, HR2.out, fun q e => by have h := HG2.out; simp only [Value.ownBlock, Option.some.injEq] at e; omega, HU2.out⟩
  case round =>
    obtain ⟨k, hk, rfl, ao, c, rfl, hrow, hown, hup⟩ := hrel
    have HROW := hid hrow; have HOWN := hid hown; have HUP := hid hup
    obtain ⟨wo, rfl⟩ : ∃ wo, wo = wr := ⟨_, rfl⟩
    obtain ⟨M, hM⟩ : ∃ M, M = 1 + 2 * k := ⟨_, rfl⟩
    have HM := hid hM
    have hbx := hup.get HB1.out (fun e => e)
    have c6 : wo.cell? ⟨p, 6, none⟩ = some (.slice ro R rc) := cell_of_row wo p 6 _ _ _ hbx
    have hpl : p < wo.heap.size := lt_of_heap hbx
    rw [← hM] at HROW HOWN ⊢
    clear hrow hown hup hM hbx
    by_cases hlt : k < R
    · have hkl : k < L.length := by have := HRR.out; omega
      obtain ⟨fo, fn, fc, lo, ln, lc, hfe, hle⟩ := HF.out L[k] (List.getElem_mem hkl)
      obtain ⟨gr, hro, hgr, d6, d7⟩ : ∃ gr, ro = some ⟨gr, 0, none⟩ ∧ gr < wo.heap.size ∧ wo.cell? ⟨gr, k * 8 + 6, none⟩ = some (.slice fo fn fc) ∧ wo.cell? ⟨gr, k * 8 + 7, none⟩ = some (.slice lo ln lc) := by
        have h := owns_upd (HR.out) (HU1.out.trans HUP.out (fun _ _ e => e)) (fun _ _ e => e)
        rcases h.2 with ⟨-, hz⟩ | ⟨g, cap, cur, e, -, hg, h1, h2, h3, h4⟩
        · omega
        · injection e with e1 e2 e3
          subst e3
          refine ⟨g, e1, lt_of_heap hg, ?_, ?_⟩
          · rw [cell_of_row wo g _ _ _ _ hg, ← Array.getElem?_toList]
            have h5 := flat_at (f := MV.cells) (n := 8) (fun _ => rfl) L hkl (j := 6) (by omega)
            rw [← h4, List.getElem?_take, if_pos (by omega)] at h5
            rw [h5]
            simp [MV.cells, hfe]
          · rw [cell_of_row wo g _ _ _ _ hg, ← Array.getElem?_toList]
            have h5 := flat_at (f := MV.cells) (n := 8) (fun _ => rfl) L hkl (j := 7) (by omega)
            rw [← h4, List.getElem?_take, if_pos (by omega)] at h5
            rw [h5]
            simp [MV.cells, hle]
      subst hro
      have hki : (k : Int) < (R : Int) := by omega
      have hal := ((Upd.refl (fun _ => False) wo).alloc (.cells [Value.slice fo fn fc, .slice lo ln lc].toArray 22)).drew
      obtain ⟨v', w4, hrun4, r4, u4, o4, -⟩ := rowLists.more (w := (wo.alloc (.cells [Value.slice fo fn fc, .slice lo ln lc].toArray 22)).drew) (SRow.upd HROW.out hal (fun _ _ e => e)) ⟨wo.heap.size, 0, none⟩ 2 2 [Value.slice fo fn fc, .slice lo ln lc] rfl (new_cells wo 22 _) (fun u hu => by simp at hu; rcases hu with rfl | rfl <;> rfl) (by have := HM.out; omega) 43
      obtain ⟨ao4, c4, hv4, -, -, -⟩ := SRow.slice r4
      rw [hv4] at hrun4 r4 o4
      have hrun4' : (Builtin.append_ #[43, 43] 43 #[.slice ao M c, .slice (some ⟨wo.heap.size, 0, none⟩) 2 2]).run Tryz.prog (wo.alloc (.cells #[.slice fo fn fc, .slice lo ln lc] 22)).drew = .ok (.slice ao4 (M + 2) c4) w4 := hrun4
      have HRUN := hid hrun4'
      have hU4 : Upd (fun _ => False) W1 w4 := (HUP.out.trans hal (fun _ _ e => e)).trans u4 (fun q hq e => by have := HOWN.out q e; omega)
      have hu4wo : Upd (fun q => (Value.slice ao M c).ownBlock = some q) wo w4 := (hal.mono (fun _ _ e => e.elim)).trans u4 (fun _ _ e => e)
      have hbx4 := hU4.get HB1.out (fun e => e)
      have HELDA := hid (show (fun V : World => V.cell? ⟨p, 6, none⟩ = some (.slice (some ⟨gr, 0, none⟩) R rc) ∧ V.cell? ⟨gr, k * 8 + 6, none⟩ = some (.slice fo fn fc) ∧ V.cell? ⟨gr, k * 8 + 7, none⟩ = some (.slice lo ln lc)) (wo.alloc (.cells #[.slice fo fn fc, .slice lo ln lc] 22)).drew from ⟨(World.cell?_of_block (a := ⟨p, 6, none⟩) (hal.block p hpl (fun e => e))).trans c6, (World.cell?_of_block (a := ⟨gr, k * 8 + 6, none⟩) (hal.block gr hgr (fun e => e))).trans d6, (World.cell?_of_block (a := ⟨gr, k * 8 + 7, none⟩) (hal.block gr hgr (fun e => e))).trans d7⟩)
      have hgr1 : gr < w.heap.size := by
        have h := HR.out
        rcases h.2 with ⟨-, hz⟩ | ⟨g, cap, cur, e, -, hg, -⟩
        · omega
        · injection e with e1 _ _
          injection e1 with e1
          injection e1 with e1
          subst e1
          exact lt_of_heap hg
      have hne : ¬ (Value.slice ao M c).ownBlock = some gr := fun e => by have h1 := HOWN.out gr e; have h2 := HU1.out.size; omega
      have hnp : ¬ (Value.slice ao M c).ownBlock = some p := fun e => by have h1 := HOWN.out p e; have h2 := lt_of_heap HB1.out; omega
      have HELDB := hid (show (fun V : World => V.cell? ⟨p, 6, none⟩ = some (.slice (some ⟨gr, 0, none⟩) R rc) ∧ V.cell? ⟨gr, k * 8 + 6, none⟩ = some (.slice fo fn fc) ∧ V.cell? ⟨gr, k * 8 + 7, none⟩ = some (.slice lo ln lc)) w4 from ⟨(World.cell?_of_block (a := ⟨p, 6, none⟩) (hu4wo.block p hpl hnp)).trans c6, (World.cell?_of_block (a := ⟨gr, k * 8 + 6, none⟩) (hu4wo.block gr hgr hne)).trans d6, (World.cell?_of_block (a := ⟨gr, k * 8 + 7, none⟩) (hu4wo.block gr hgr hne)).trans d7⟩)
      have HNX := hid (show M + 2 = 1 + 2 * (k + 1) ∧ SRow w4 22 1 (.slice ao4 (M + 2) c4) (M + 2) (.slice so sn sc :: (L.take (k + 1)).flatMap MV.keys) ∧ (∀ q, (Value.slice ao4 (M + 2) c4).ownBlock = some q → W1.heap.size ≤ q) ∧ Upd (fun _ => False) W1 w4 from by
        refine ⟨by have := HM.out; omega, ?_, fun q e => (o4 q e).elim (HOWN.out q) (fun e => Nat.le_trans HUP.out.size (Nat.le_trans hal.size e)), hU4⟩
        rw [List.take_add_one, List.getElem?_eq_getElem hkl, Option.toList_some, List.flatMap_append]
        simpa [MV.keys, hfe, hle] using r4)
      have hcast : (wo.drew.alloc (.cells #[.slice fo fn fc, .slice lo ln lc] 22)) = (wo.alloc (.cells #[.slice fo fn fc, .slice lo ln lc] 22)).drew := rfl
      clear hrun4 hrun4' r4 u4 o4 hv4 hU4 hu4wo hbx4 hal hne hnp hfe hle hkl
      go_upto_region 5 with fail
      have hHeld : (fun V => V.cell? ⟨p, 6, none⟩ = some (.slice (some ⟨gr, 0, none⟩) R rc) ∧ V.cell? ⟨gr, k * 8 + 6, none⟩ = some (.slice fo fn fc) ∧ V.cell? ⟨gr, k * 8 + 7, none⟩ = some (.slice lo ln lc)) wo.drew := ⟨c6, d6, d7⟩
      refine wp_region_l (fun V => V.cell? ⟨p, 6, none⟩ = some (.slice (some ⟨gr, 0, none⟩) R rc) ∧ V.cell? ⟨gr, k * 8 + 6, none⟩ = some (.slice fo fn fc) ∧ V.cell? ⟨gr, k * 8 + 7, none⟩ = some (.slice lo ln lc)) 15 16 rfl (by kernel_rfl) ?_
      refine' wpAnyL_take 0 [14, 15] (v := _) rfl (by kernel_rfl) (by kernel_rfl) (by kernel_rfl) (by kernel_rfl) (by simp) (fun _ _ _ h => h) (Or.inl ⟨by rfl, ?h0⟩) (by assumption) ?r0
      case h0 => (intro wS hSw; skip; go_simp; (try with_reducible rfl))
      (try simp only [Act.put, List.setIfInBounds_toArray, List.set_cons_zero, List.set_cons_succ])
      refine' wpAnyL_take 1 [2, 4, 5, 6, 13, 14, 15] (v := _) rfl (by kernel_rfl) (by kernel_rfl) (by kernel_rfl) (by kernel_rfl) (by simp) (fun _ _ _ h => h) (Or.inl ⟨by rfl, ?h1⟩) (by assumption) ?r1
      case h1 => (intro wS hSw; skip; go_simp; (try with_reducible rfl))
      (try simp only [Act.put, List.setIfInBounds_toArray, List.set_cons_zero, List.set_cons_succ])
      refine' wpAnyL_take 2 [4, 5, 6, 13, 14, 15] (v := _) rfl (by kernel_rfl) (by kernel_rfl) (by kernel_rfl) (by kernel_rfl) (by simp) (fun _ _ _ h => h) (Or.inl ⟨by rfl, ?h2⟩) (by assumption) ?r2
      case h2 => (intro wS hSw; obtain ⟨b0, b1, b2⟩ := hSw; go_simp; (try with_reducible rfl))
      (try simp only [Act.put, List.setIfInBounds_toArray, List.set_cons_zero, List.set_cons_succ])
      refine' wpAnyL_take 3 [4, 5, 6, 13, 14, 15] (v := _) rfl (by kernel_rfl) (by kernel_rfl) (by kernel_rfl) (by kernel_rfl) (by simp) (fun _ _ _ h => h) (Or.inl ⟨by rfl, ?h3⟩) (by assumption) ?r3
      case h3 => (intro wS hSw; skip; go_simp; (try with_reducible rfl))
      (try simp only [Act.put, List.setIfInBounds_toArray, List.set_cons_zero, List.set_cons_succ])
      refine' wpAnyL_take 4 [5, 6, 13, 14, 15] (v := _) rfl (by kernel_rfl) (by kernel_rfl) (by kernel_rfl) (by kernel_rfl) (by simp) (fun _ _ _ h => h) (Or.inl ⟨by rfl, ?h4⟩) (by assumption) ?r4
      case h4 => (intro wS hSw; skip; go_simp; (try with_reducible rfl))
      (try simp only [Act.put, List.setIfInBounds_toArray, List.set_cons_zero, List.set_cons_succ])
      refine' wpAnyL_take 5 [6, 13, 14, 15] (v := _) rfl (by kernel_rfl) (by kernel_rfl) (by kernel_rfl) (by kernel_rfl) (by simp) (fun _ _ _ h => h) (Or.inl ⟨by rfl, ?h5⟩) (by assumption) ?r5
      case h5 => (intro wS hSw; skip; go_simp; (try with_reducible rfl))
      (try simp only [Act.put, List.setIfInBounds_toArray, List.set_cons_zero, List.set_cons_succ])
      refine' wpAnyL_take 6 [13, 14, 15] (v := _) rfl (by kernel_rfl) (by kernel_rfl) (by kernel_rfl) (by kernel_rfl) (by simp) (fun _ _ _ h => h) (Or.inl ⟨by rfl, ?h6⟩) (by assumption) ?r6
      case h6 => (intro wS hSw; obtain ⟨b0, b1, b2⟩ := hSw; go_simp; (try with_reducible rfl))
      (try simp only [Act.put, List.setIfInBounds_toArray, List.set_cons_zero, List.set_cons_succ])
      refine' wpAnyL_take 7 [8, 10, 11, 12, 13, 14, 15] (v := _) rfl (by kernel_rfl) (by kernel_rfl) (by kernel_rfl) (by kernel_rfl) (by simp) (fun _ _ _ h => h) (Or.inl ⟨by rfl, ?h7⟩) (by assumption) ?r7
      case h7 => (intro wS hSw; skip; go_simp; (try with_reducible rfl))
      (try simp only [Act.put, List.setIfInBounds_toArray, List.set_cons_zero, List.set_cons_succ])
      refine' wpAnyL_take 8 [10, 11, 12, 13, 14, 15] (v := _) rfl (by kernel_rfl) (by kernel_rfl) (by kernel_rfl) (by kernel_rfl) (by simp) (fun _ _ _ h => h) (Or.inl ⟨by rfl, ?h8⟩) (by assumption) ?r8
      case h8 => (intro wS hSw; obtain ⟨b0, b1, b2⟩ := hSw; go_simp; (try with_reducible rfl))
      (try simp only [Act.put, List.setIfInBounds_toArray, List.set_cons_zero, List.set_cons_succ])
      refine' wpAnyL_take 9 [10, 11, 12, 13, 14, 15] (v := _) rfl (by kernel_rfl) (by kernel_rfl) (by kernel_rfl) (by kernel_rfl) (by simp) (fun _ _ _ h => h) (Or.inl ⟨by rfl, ?h9⟩) (by assumption) ?r9
      case h9 => (intro wS hSw; skip; go_simp; (try with_reducible rfl))
      (try simp only [Act.put, List.setIfInBounds_toArray, List.set_cons_zero, List.set_cons_succ])
      refine' wpAnyL_take 10 [11, 12, 13, 14, 15] (v := _) rfl (by kernel_rfl) (by kernel_rfl) (by kernel_rfl) (by kernel_rfl) (by simp) (fun _ _ _ h => h) (Or.inl ⟨by rfl, ?h10⟩) (by assumption) ?r10
      case h10 => (intro wS hSw; skip; go_simp; (try with_reducible rfl))
      (try simp only [Act.put, List.setIfInBounds_toArray, List.set_cons_zero, List.set_cons_succ])
      refine' wpAnyL_take 11 [12, 13, 14, 15] (v := _) rfl (by kernel_rfl) (by kernel_rfl) (by kernel_rfl) (by kernel_rfl) (by simp) (fun _ _ _ h => h) (Or.inl ⟨by rfl, ?h11⟩) (by assumption) ?r11
      case h11 => (intro wS hSw; skip; go_simp; (try with_reducible rfl))
      (try simp only [Act.put, List.setIfInBounds_toArray, List.set_cons_zero, List.set_cons_succ])
      refine' wpAnyL_take 12 [13, 14, 15] (v := _) rfl (by kernel_rfl) (by kernel_rfl) (by kernel_rfl) (by kernel_rfl) (by simp) (fun _ _ _ h => h) (Or.inl ⟨by rfl, ?h12⟩) (by assumption) ?r12
      case h12 => (intro wS hSw; obtain ⟨b0, b1, b2⟩ := hSw; go_simp; (try with_reducible rfl))
      (try simp only [Act.put, List.setIfInBounds_toArray, List.set_cons_zero, List.set_cons_succ])
      refine wpAnyL_one 13 rfl (by kernel_rfl) (fun K hK => ?_)
      go_simp
      refine hK.out _ _ (fun _ => HELDA.out) ?_
      clear hK K
      (try simp only [Act.put, List.setIfInBounds_toArray, List.set_cons_zero, List.set_cons_succ])
      (try rw [hcast])
      refine wpAnyL_one 14 rfl (by kernel_rfl) (fun K hK => ?_)
      refine step_append_eq rfl (.tmp 15) (.tmp 28) 43 rfl rfl rfl HRUN.out ?_
      refine hK.out _ _ (fun _ => HELDB.out) ?_
      clear hK K
      (try simp only [Act.put, List.setIfInBounds_toArray, List.set_cons_zero, List.set_cons_succ])
      refine wpAnyL_one 15 rfl (by kernel_rfl) (fun K hK => ?_)
      go_simp
      refine hK.out _ _ (fun _ => HELDB.out) ?_
      clear hK K
      (try simp only [Act.put, List.setIfInBounds_toArray, List.set_cons_zero, List.set_cons_succ])
      refine wpAnyL_done (by kernel_rfl) ?_ _
      go_wp2
      go_roundw
      case rel => exact ⟨k + 1, by omega, by go_num, ao4, c4, by rw [HNX.out.1], by rw [← HNX.out.1]; exact HNX.out.2.1, by rw [← HNX.out.1]; exact HNX.out.2.2.1, HNX.out.2.2.2⟩
      case measure => simp [intOf]; omega
    · obtain rfl : k = R := by omega
      go_wp2
      go_ret
      refine ⟨ao, c, by rw [← HM.out]; rfl, by rw [← HM.out]; have h := HROW.out; rw [List.take_of_length_le (by have := HRR.out; omega)] at h; exact h, fun q e => ?_, HU1.out.trans HUP.out (fun _ _ e => e)⟩
      rw [← HM.out] at e
      exact Nat.le_trans HU1.out.size (HOWN.out q e)

end Go.Proofs.YtgaidmohdhaonaaGreatDoor

namespace Go.Proofs.YtgaidmohdhaonaaGreatDoor
set_option linter.unusedVariables false
set_option linter.unusedSimpArgs false
set_option linter.unnecessarySimpa false
set_option linter.unusedSectionVars false
open Go Go.RowKit

theorem Tryz.infoMetaR : (Tryz.prog.info? 48).map (fun i => (i.zero, i.size, i.bytes)) = some (some (.agg #[.int .i64 0, .int .i64 0, .int .i64 0, .int .i64 0, .int .i64 0, .int .i64 0, .slice none 0 0, .slice none 0 0]), 8, 96) := by kernel_rfl

/-- What an append leaves of the list itself. -/
theorem append_base {T E : TypeId} {i0 : TypeInfo} {zz : Value} (hund : Tryz.prog.underlying T = some (.slice E)) (hi : Tryz.prog.info? E = some i0) (hz0 : i0.zero = some zz) (hb : i0.bytes ≤ 96) (hz3 : zz.cells.size = i0.size) {w : World} {v : Value} {n : Nat} {xs : List Value} (h : SRow w E i0.size v n xs) (hpos : 0 < i0.size)
    (a : Addr) (m c : Nat) (news : List Value) (hl : news.length = m * i0.size) (hnews : ∀ j u, news[j]? = some u → w.cell? (a.add j) = some u) (h1 : ∀ u ∈ news, u.oneCell' = true) (hn : n + m ≤ 1000000) (ty : TypeId) :
    ∃ v' w', (Builtin.append_ #[T, T] ty #[v, .slice (some a) m c]).run Tryz.prog w = .ok v' w' ∧ (∃ ao cap, v' = .slice ao (n + m) cap) ∧ SRow w' E i0.size v n xs ∧ Upd (fun k => v.ownBlock = some k) w w' := by
  rcases id h.2 with ⟨rfl, rfl⟩ | ⟨g, cap, cur, rfl, hg, hnc, hcm, hcs, htake⟩
  · have hby : (0 + m) * i0.bytes ≤ 140737488355328 := Nat.le_trans (Nat.mul_le_mul hn hb) (by decide)
    obtain ⟨v', w', hrun, hown, hgr, -, hat⟩ := run_append_own_at (P := Tryz.prog) w 0 T ty E i0 zz i0.size i0.bytes hund hi hz0 rfl rfl hz3 hpos (.slice none 0 0) 0 [] (World.ownsRow_nil _ _ _ _) a m c news hl hnews h1 (by unfold maxLen; omega) hby (Nat.zero_le _)
    have hu : Upd (fun _ => False) w w' := (Upd.refl _ _).grown hgr (fun k hk _ => by cases hk)
    obtain ⟨ao, c', e, -⟩ := (SRow.of_owns hown).slice
    exact ⟨v', w', hrun, ⟨ao, c', e⟩, h.upd hu (fun _ _ e => e), hu.mono (fun _ _ e => e.elim)⟩
  · by_cases hroom : n + m ≤ cap
    · have hfit : n * i0.size + news.length ≤ cur.size := by rw [hl, ← Nat.add_mul]; exact Nat.le_trans (Nat.mul_le_mul_right _ hroom) hcs
      have hr2 := run_append_room (P := Tryz.prog) w T ty E i0 hund hi g n cap cur hg a m c news hl hnews h1 hroom hfit
      refine ⟨_, _, hr2, ⟨_, _, rfl⟩, ⟨h.1, .inr ⟨g, cap, _, rfl, setRow_heap w g cur _ E _ hg, hnc, hcm, ?_, ?_⟩⟩, (Upd.refl _ _).grown (row := some g) ⟨rfl, rfl, rfl, by simp, fun k _ hk => setRow_other w g k _ (fun e => hk (by rw [e]))⟩ (fun k hk _ => hk)⟩
      · simp only [List.size_toArray, List.length_append, List.length_take, List.length_drop, Array.length_toList]
        omega
      · show List.take (n * i0.size) (List.take (n * i0.size) cur.toList ++ news ++ List.drop (n * i0.size + news.length) cur.toList) = xs
        rw [List.append_assoc, List.take_append_of_le_length (by rw [List.length_take, Array.length_toList]; omega), List.take_take, Nat.min_self]
        exact htake
    · have hby : (n + m) * i0.bytes ≤ 140737488355328 := Nat.le_trans (Nat.mul_le_mul hn hb) (by decide)
      have hr2 := run_append_grow (P := Tryz.prog) w T ty E i0 zz hund hi hz0 ⟨g, 0, none⟩ n cap xs h.1 (h.cells rfl) a m c news hl hnews (by omega) (by omega) (growslice_fits (by omega) hby)
      exact ⟨_, _, hr2, ⟨_, _, rfl⟩, SRow.upd (S := fun _ => False) h (((Upd.refl _ _).drew).alloc _) (fun _ _ e => e), ((Upd.refl _ _).drew).alloc _⟩

/-- A run that is nothing but its number. -/
def numC (n : Int) : List Value := [.int .i64 n, .int .i64 0, .int .i64 0, .int .i64 0, .int .i64 0, .int .i64 0, .slice none 0 0, .slice none 0 0]

theorem meta_append {w : World} {v : Value} {n : Nat} {xs : List Value} (h : SRow w 48 8 v n xs) (hn : n ≤ 1000) (a b : Int) :
    ∃ ao cap w', (Builtin.append_ #[23, 23] 23 #[v, .slice (some ⟨w.heap.size, 0, none⟩) 2 2]).run Tryz.prog (w.alloc (.cells (numC a ++ numC b).toArray 48)) = .ok (.slice ao (n + 2) cap) w' ∧ SRow w' 48 8 v n xs ∧ Upd (fun k => v.ownBlock = some k) w w' := by
  obtain ⟨i0, hi, hz0, hz1, hz2⟩ := info_parts Tryz.infoMetaR
  have hal : Upd (fun _ => False) w (w.alloc (.cells (numC a ++ numC b).toArray 48)) := (Upd.refl _ _).alloc _
  have h2 : SRow (w.alloc (.cells (numC a ++ numC b).toArray 48)) 48 i0.size v n xs := by rw [hz1]; exact SRow.upd h hal (fun _ _ e => e)
  obtain ⟨v', w', hrun, ⟨ao, cap, rfl⟩, hr, hu⟩ := append_base Tryz.underlying23 hi hz0 (by rw [hz2]; decide) (by rw [hz1]; rfl) h2 (by rw [hz1]; decide) ⟨w.heap.size, 0, none⟩ 2 2 (numC a ++ numC b) (by rw [hz1]; rfl) (new_cells w _ _) (fun u hu => by simp [numC] at hu; rcases hu with rfl | rfl | rfl | rfl | rfl | rfl <;> rfl) (by omega) 23
  rw [hz1] at hr
  exact ⟨ao, cap, w', hrun, hr, (hal.mono (fun _ _ e => e.elim)).trans hu (fun _ _ e => e)⟩

/-- One run of a list is written. -/
theorem meta_set {w : World} {v : Value} {n k : Nat} {xs : List Value} (h : SRow w 48 8 v n xs) (hk : k < n) (m : Int) :
    ∃ g cap, v = .slice (some ⟨g, 0, none⟩) n cap ∧ g < w.heap.size ∧ (∀ j, j < 8 → (∃ u, w.cell? ⟨g, k * 8 + j, none⟩ = some u) ∧ w.frozen? ⟨g, k * 8 + j, none⟩ = false) ∧
      SRow ((((((((w.setCell ⟨g, k * 8, none⟩ (.int .i64 m)).setCell ⟨g, k * 8 + 1, none⟩ (.int .i64 0)).setCell ⟨g, k * 8 + 2, none⟩ (.int .i64 0)).setCell ⟨g, k * 8 + 3, none⟩ (.int .i64 0)).setCell ⟨g, k * 8 + 4, none⟩ (.int .i64 0)).setCell ⟨g, k * 8 + 5, none⟩ (.int .i64 0)).setCell ⟨g, k * 8 + 6, none⟩ (.slice none 0 0)).setCell ⟨g, k * 8 + 7, none⟩ (.slice none 0 0)) 48 8 v n
        ((((((((xs.set (k * 8) (.int .i64 m)).set (k * 8 + 1) (.int .i64 0)).set (k * 8 + 2) (.int .i64 0)).set (k * 8 + 3) (.int .i64 0)).set (k * 8 + 4) (.int .i64 0)).set (k * 8 + 5) (.int .i64 0)).set (k * 8 + 6) (.slice none 0 0)).set (k * 8 + 7) (.slice none 0 0)) := by
  have st : ∀ {w : World} {xs : List Value} (g cap : Nat) (j : Nat) (u : Value), SRow w 48 8 (.slice (some ⟨g, 0, none⟩) n cap) n xs → j < 8 → SRow (w.setCell ⟨g, k * 8 + j, none⟩ u) 48 8 (.slice (some ⟨g, 0, none⟩) n cap) n (xs.set (k * 8 + j) u) := by
    intro w xs g cap j u h hj
    obtain ⟨g', cap', old, e, hs, -⟩ := SRow.set (m := k * 8 + j) (u := u) h (by omega)
    injection e with e1 _ _
    injection e1 with e1
    injection e1 with e1
    subst e1
    exact hs
  obtain ⟨g, cap, old, rfl, -, hgl, hold, -⟩ := id (SRow.set (m := k * 8) (u := .int .i64 m) h (by omega))
  have h0 := st g cap 0 (.int .i64 m) h (by omega)
  have h1 := st g cap 1 (.int .i64 0) h0 (by omega)
  have h2 := st g cap 2 (.int .i64 0) h1 (by omega)
  have h3 := st g cap 3 (.int .i64 0) h2 (by omega)
  have h4 := st g cap 4 (.int .i64 0) h3 (by omega)
  have h5 := st g cap 5 (.int .i64 0) h4 (by omega)
  have h6 := st g cap 6 (.slice none 0 0) h5 (by omega)
  have h7 := st g cap 7 (.slice none 0 0) h6 (by omega)
  refine ⟨g, cap, rfl, ?_, fun j hj => ?_, h7⟩
  · rcases h.2 with ⟨e, -⟩ | ⟨g', c', cur, e, hg, -⟩
    · cases e
    · injection e with e1 _ _; injection e1 with e1; injection e1 with e1; subst e1; exact lt_of_heap hg
  · rcases h.2 with ⟨e, -⟩ | ⟨g', c', cur, e, hg, q1, q2, q3, q4⟩
    · cases e
    · injection e with e1 _ _; injection e1 with e1; injection e1 with e1; subst e1
      refine ⟨?_, frozen_of_row _ _ _ _ _ hg⟩
      rw [cell_of_row w g _ _ _ _ hg]
      have hlen : k * 8 + j < cur.size := by have := h.1; have : (cur.toList.take (n * 8)).length ≤ cur.size := by rw [List.length_take, Array.length_toList]; omega
                                             rw [q4] at this; omega
      exact ⟨_, Array.getElem?_eq_getElem hlen⟩

theorem rep_set8 {ys : List Value} {k n : Nat} (hl : ys.length = n * 8) (hk : k < n) (m : Int) :
    ((((((((((rep k (numC m) ++ ys.drop (k * 8)).set (k * 8) (.int .i64 m)).set (k * 8 + 1) (.int .i64 0)).set (k * 8 + 2) (.int .i64 0)).set (k * 8 + 3) (.int .i64 0)).set (k * 8 + 4) (.int .i64 0)).set (k * 8 + 5) (.int .i64 0)).set (k * 8 + 6) (.slice none 0 0)).set (k * 8 + 7) (.slice none 0 0))) = rep (k + 1) (numC m) ++ ys.drop ((k + 1) * 8) := by
  have hr : (rep k (numC m)).length = k * 8 := by rw [rep_length]; rfl
  obtain ⟨b0, b1, b2, b3, b4, b5, b6, b7, B, hB⟩ : ∃ b0 b1 b2 b3 b4 b5 b6 b7 B, ys.drop (k * 8) = b0 :: b1 :: b2 :: b3 :: b4 :: b5 :: b6 :: b7 :: B := by
    have hd : (ys.drop (k * 8)).length = (n - k) * 8 := by rw [List.length_drop, hl, Nat.sub_mul]
    have h8 : 8 ≤ (ys.drop (k * 8)).length := by rw [hd]; omega
    match ys.drop (k * 8), h8 with
    | b0 :: b1 :: b2 :: b3 :: b4 :: b5 :: b6 :: b7 :: B, _ => exact ⟨b0, b1, b2, b3, b4, b5, b6, b7, B, rfl⟩
  have hB2 : ys.drop ((k + 1) * 8) = B := by
    rw [show (k + 1) * 8 = k * 8 + 8 by omega, ← List.drop_drop, hB]
    rfl
  rw [hB2, hB, rep_succ]
  generalize rep k (numC m) = A at hr ⊢
  rw [List.set_append_right _ _ (by omega), List.set_append_right _ _ (by omega), List.set_append_right _ _ (by omega), List.set_append_right _ _ (by omega), List.set_append_right _ _ (by omega), List.set_append_right _ _ (by omega), List.set_append_right _ _ (by omega), List.set_append_right _ _ (by omega)]
  simp only [hr, Nat.sub_self, Nat.add_sub_cancel_left, List.set_cons_zero, List.set_cons_succ, List.append_assoc, numC, List.cons_append, List.nil_append]

end Go.Proofs.YtgaidmohdhaonaaGreatDoor

namespace Go.Proofs.YtgaidmohdhaonaaGreatDoor
set_option linter.unusedVariables false
set_option linter.unusedSimpArgs false
set_option linter.unnecessarySimpa false
set_option linter.unusedSectionVars false
open Go Go.RowKit

def lvOf (v : Value) (bs : List UInt8) : LV := ⟨v, bs.length, bs.map byteV⟩
def keysV (L : List MV) : List LV := L.flatMap fun z => [lvOf z.f z.m.first, lvOf z.l z.m.last]
def blkV (ls : List LV) : List Nat := ls.flatMap fun z => z.v.ownBlock.toList

theorem keysV_v : ∀ L : List MV, (keysV L).map LV.v = L.flatMap MV.keys
  | [] => rfl
  | z :: L => by
    show LV.v (lvOf z.f z.m.first) :: LV.v (lvOf z.l z.m.last) :: (keysV L).map LV.v = _
    rw [keysV_v L]
    rfl
theorem keysV_blk : ∀ L : List MV, blkV (keysV L) = keyBlocks L
  | [] => rfl
  | z :: L => by
    have h := keysV_blk L
    show z.f.ownBlock.toList ++ (z.l.ownBlock.toList ++ blkV (keysV L)) = (z.f.ownBlock.toList ++ z.l.ownBlock.toList) ++ keyBlocks L
    rw [h, List.append_assoc]
theorem keysV_len : ∀ L : List MV, (keysV L).length = 2 * L.length
  | [] => rfl
  | z :: L => by
    show (keysV L).length + 1 + 1 = 2 * (L.length + 1)
    rw [keysV_len L]
    omega
theorem keysV_mem {L : List MV} {z : LV} (h : z ∈ keysV L) : ∃ y ∈ L, z = lvOf y.f y.m.first ∨ z = lvOf y.l y.m.last := by
  obtain ⟨y, hy, hz⟩ := List.mem_flatMap.1 h
  simp only [List.mem_cons, List.not_mem_nil, or_false] at hz
  exact ⟨y, hy, hz⟩
theorem blkV_mem {ls : List LV} {t q : Nat} (ht : t < ls.length) (h : ls[t].v.ownBlock = some q) : q ∈ blkV ls :=
  List.mem_flatMap.2 ⟨ls[t], List.getElem_mem ht, by rw [h]; simp⟩
theorem blkV_append (a b : List LV) : blkV (a ++ b) = blkV a ++ blkV b := List.flatMap_append
theorem one_of : ∀ {ls : List LV}, (blkV ls).Nodup → ∀ t i q (ht : t < ls.length) (hi : i < ls.length), ls[t].v.ownBlock = some q → ls[i].v.ownBlock = some q → t = i
  | a :: r, h, t, i, q, ht, hi, e1, e2 => by
    have h' : (a.v.ownBlock.toList ++ blkV r).Nodup := h
    obtain ⟨-, hr, hd⟩ := List.nodup_append.1 h'
    cases t with
    | zero =>
      cases i with
      | zero => rfl
      | succ i =>
        have e1' : a.v.ownBlock = some q := e1
        exact absurd rfl (hd q (by rw [e1']; simp) q (blkV_mem (ls := r) (t := i) (by simpa using hi) (by simpa using e2)))
    | succ t =>
      cases i with
      | zero =>
        have e2' : a.v.ownBlock = some q := e2
        exact absurd rfl (hd q (by rw [e2']; simp) q (blkV_mem (ls := r) (t := t) (by simpa using ht) (by simpa using e1)))
      | succ i => rw [one_of hr t i q (by simpa using ht) (by simpa using hi) (by simpa using e1) (by simpa using e2)]
theorem lsIn_of {w : World} {lv : Value} {ls : List LV} (hrow : SRow w 22 1 lv ls.length (ls.map LV.v)) (hd : ∀ z ∈ ls, ∃ bs, z = lvOf z.v bs ∧ DataIs w z.v bs ∧ bs.length ≤ 1000000) (hnd : (blkV ls).Nodup) (hout : ∀ q ∈ blkV ls, ¬ lv.ownBlock = some q) : LsIn w lv ls := by
  refine ⟨hrow, fun t ht => ?_, one_of hnd, fun t q ht e => hout q (blkV_mem ht e), fun t ht => ?_⟩
  · obtain ⟨bs, e, h1, -⟩ := hd ls[t] (List.getElem_mem ht)
    have h2 := SRow.of_data h1
    have e1 : ls[t].n = bs.length := by rw [e]; rfl
    have e2 : ls[t].xs = bs.map byteV := by rw [e]; rfl
    rw [e1, e2]
    exact h2
  · obtain ⟨bs, e, -, h1⟩ := hd ls[t] (List.getElem_mem ht)
    have e1 : ls[t].n = bs.length := by rw [e]; rfl
    rw [e1]
    exact h1
theorem vblk_mem {ls : List LV} {q : Nat} (h : vblk ls q) : q ∈ blkV ls := by
  obtain ⟨t, ht, e⟩ := h
  exact blkV_mem ht e
/-- A row of one type is none of another. -/
theorem LsIn.notBlk {w : World} {lv : Value} {ls : List LV} (h : LsIn w lv ls) {b : Nat} {cs : Array Value} {t : TypeId} {fr : Nat × Nat} (hb : w.heap[b]? = some (.cells cs t fr)) (ht : t ≠ 5) : ¬ vblk ls b := by
  rintro ⟨i, hi, e⟩
  rcases (h.vs i hi).2 with ⟨e2, -⟩ | ⟨g, cap, cur, e2, hg, -⟩
  · rw [e2] at e; cases e
  · rw [e2] at e
    simp only [Value.ownBlock, Option.some.injEq] at e
    subst e
    rw [hb] at hg
    injection hg with hg
    injection hg with _ hg
    exact ht hg

theorem LsIn.quiet {w w' : World} {lv : Value} {ls : List LV} (h : LsIn w lv ls) (hu : Upd (fun _ => False) w w') : LsIn w' lv ls :=
  ⟨SRow.upd h.row hu (fun _ _ e => e), fun t ht => SRow.upd (h.vs t ht) hu (fun _ _ e => e), h.one, h.out, h.short⟩
theorem GrownO.stand {S : Nat → Prop} {w0 w1 W : World} {lv mv : Value} {ls : List LV} {gs : List Value} (hg : GrownO w0 w1 ls ls.length mv gs) (h : LsIn w0 lv ls) (hu : Upd S w1 W) (hS : ∀ k, S k → k < w0.heap.size ∧ ¬ vblk ls k ∧ ¬ lv.ownBlock = some k) : StandO W lv mv ls gs := by
  refine ⟨SRow.upd (h.tops hg.upd (fun _ _ e => e)) hu (fun q hq e => (hS q e).2.2 hq), SRow.upd hg.row hu (fun q hq e => by have h1 := hg.new q hq; have h2 := (hS q e).1; omega), fun t ht => ((hg.tri t ht ht).base).upd hu (fun q e1 e2 => (hS q e2).2.1 ⟨t, ht, e1⟩), fun t ht r hr => ?_, h.short⟩
  have hT := hg.tri t ht ht
  have hlen := hg.len
  have hget : ∀ j, j < gs.length → gs[j]? = some (gs.getD j undef) := fun j hj => by rw [List.getD, List.getElem?_eq_getElem hj]; rfl
  have hkeep : ∀ g ∈ [gs.getD (3 * t) undef, gs.getD (3 * t + 1) undef, gs.getD (3 * t + 2) undef], ∀ k, g.ownBlock = some k → ¬ S k := by
    intro g hgm k e1 e2
    rcases (hT.own g hgm k e1).1 with e | e
    · exact (hS k e2).2.1 ⟨t, ht, e⟩
    · have := (hS k e2).1; omega
  rcases r with _ | _ | _ | r
  · exact ⟨_, hget _ (by omega), by simpa [longO] using hT.a.upd hu (hkeep _ (by simp))⟩
  · exact ⟨_, hget _ (by omega), by simpa [longO] using hT.b.upd hu (hkeep _ (by simp))⟩
  · exact ⟨_, hget _ (by omega), by simpa [longO] using hT.c.upd hu (hkeep _ (by simp))⟩
  · omega

/-- A version in blocks of its own, all below a bound. -/
structure VerOwnT (W : World) (base top : Nat) (v : Value) (x : VerA) : Prop where
  ex : ∃ st rs L, v = .agg #[.int .i64 x.gen, .int .i64 x.flushed, .int .i64 x.next, .int .i64 x.low, .int .i64 x.clock, st, rs] ∧ DataIs W st x.state ∧ RunsOwn W base rs L ∧ x.runs = L.map MV.m ∧
    (st.ownBlock.toList ++ keyBlocks L).Nodup ∧ (∀ k ∈ st.ownBlock.toList ++ keyBlocks L, base ≤ k) ∧ (∀ k ∈ st.ownBlock.toList ++ keyBlocks L, k < top) ∧ ∀ k, rs.ownBlock = some k → k < top
theorem VerOwnT.of {W : World} {base : Nat} {v : Value} {x : VerA} (h : VerOwn W base v x) : VerOwnT W base W.heap.size v x := by
  obtain ⟨st, rs, L, e, h1, h2, h3, h4, h5⟩ := h.ex
  refine ⟨st, rs, L, e, h1, h2, h3, h4, h5, fun k hk => ?_, fun k hk => (h2.row.lt k hk).2⟩
  rcases List.mem_append.1 hk with hk | hk
  · exact h1.lt k (by simpa using hk)
  · obtain ⟨y, hy, hk⟩ := List.mem_flatMap.1 hk
    rcases List.mem_append.1 hk with hk | hk
    · exact (h2.data y hy).1.lt k (by simpa using hk)
    · exact (h2.data y hy).2.lt k (by simpa using hk)
theorem VerOwnT.keep {S : Nat → Prop} {W W' : World} {base top : Nat} {v : Value} {x : VerA} (h : VerOwnT W base top v x) (hu : Upd S W W') (hS : ∀ k, S k → k < base) : VerOwnT W' base top v x := by
  obtain ⟨st, rs, L, rfl, h1, h2, h3, h4, h5, h6, h7⟩ := h.ex
  have hk : ∀ y ∈ L, ∀ k, (y.f.ownBlock = some k ∨ y.l.ownBlock = some k) → base ≤ k := by
    intro y hy k hk
    refine h5 k (List.mem_append.2 (.inr (List.mem_flatMap.2 ⟨y, hy, List.mem_append.2 ?_⟩)))
    rcases hk with hk | hk
    · exact .inl (by simpa using hk)
    · exact .inr (by simpa using hk)
  refine ⟨st, rs, L, rfl, h1.upd hu (fun k e hs => ?_), ⟨owns_upd h2.row hu (fun k e hs => ?_), fun y hy => ⟨(h2.data y hy).1.upd hu (fun k e hs => ?_), (h2.data y hy).2.upd hu (fun k e hs => ?_)⟩⟩, h3, h4, h5, h6, h7⟩
  · have := hS k hs; have := h5 k (List.mem_append.2 (.inl (by simpa using e))); omega
  · have := hS k hs; have := (h2.row.lt k e).1; omega
  · have := hS k hs; have := hk y hy k (.inl e); omega
  · have := hS k hs; have := hk y hy k (.inr e); omega

end Go.Proofs.YtgaidmohdhaonaaGreatDoor
