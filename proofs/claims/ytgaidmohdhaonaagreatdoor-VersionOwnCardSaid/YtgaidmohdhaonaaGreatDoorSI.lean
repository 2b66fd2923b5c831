/-
  stratalaw10.filled, walked.
  stratalaw10.stand, walked.
-/
import Derived.Test.YtgaidmohdhaonaaGreatDoorSH
import Derived.Test.YtgaidmohdhaonaaGreatDoorSB
namespace Go.Proofs.YtgaidmohdhaonaaGreatDoor
set_option linter.unusedVariables false
set_option linter.unusedSimpArgs false
set_option linter.unnecessarySimpa false
set_option linter.unusedSectionVars false
open Go Go.RowKit

set_option maxRecDepth 100000 in
set_option maxHeartbeats 12800000 in
theorem filled_any {w : World} {lv : Value} {ls : List LV} (h : LsIn w lv ls) (hN : ls.length ≤ 100000) :
    Calls Tryz.prog 22 #[lv] w fun e w' => ∃ ma mc gs, e = .returned (.slice ma (3 * ls.length) mc) ∧ GrownO w w' ls ls.length (.slice ma (3 * ls.length) mc) gs := by
  obtain ⟨ga, la, lc, rfl, hl1, hl2, hla, hat⟩ := h.rowAt
  have HK := hid h; have HLA := hid hla
  have HSH := hid h.short
  obtain ⟨N, hNN⟩ : ∃ N, N = ls.length := ⟨_, rfl⟩
  have HN := hid hNN
  have HAT := hid hat
  rw [← hNN] at hl1 HLA hN HK ⊢
  have hM0 : MarkedO w w ls 0 := h.marked0
  have HM0 := hid hM0
  clear h hat hla hNN hM0
  go_enter Tryz.func22, Tryz.ntmps22
  go_wp2
  go_loopw [3] (fun i wr => ∃ j : Nat, j ≤ N ∧ i = .int .i64 j ∧ MarkedO w wr ls j) (fun i _ => N - (intOf i).toNat)
  case atStart => exact ⟨0, Nat.zero_le _, rfl, HM0.out⟩
  case round =>
    obtain ⟨j, hj, rfl, hm⟩ := hrel
    have HM := hid hm
    by_cases hlt : j < N
    · have hlt' : j < ls.length := by have := HN.out; omega
      obtain rfl := HLA.out (by omega)
      obtain ⟨hg, d0⟩ := HAT.out _ _ hm.upd (fun _ _ e => e) j hlt'
      have hrow := hm.rest j hlt' (Nat.le_refl _)
      have hsh := HSH.out j hlt'
      obtain ⟨v, hv⟩ : ∃ v, v = ls[j].v := ⟨_, rfl⟩
      obtain ⟨n, hn⟩ : ∃ n, n = ls[j].n := ⟨_, rfl⟩
      have HV := hid hv; have HNE := hid hn
      rw [← hv] at d0
      rw [← hn] at hsh
      rw [← hv, ← hn] at hrow
      obtain ⟨va, vc, hvs, hv1, hv2, -⟩ := SRow.slice hrow
      have HVS := hid hvs; have HROW := hid hrow
      rw [hvs] at d0
      clear hm hrow hv hn hvs
      go_wp2
      obtain ⟨wo, rfl⟩ : ∃ wo, wo = wr := ⟨_, rfl⟩
      go_loopw [4] (fun c wr => ∃ i : Nat, i ≤ n ∧ c = .int .i64 i ∧ Upd (fun q => v.ownBlock = some q) wo wr ∧ SRow wr 5 1 v n (rep i [byteV (mkO j)] ++ ls[j].xs.drop (i * 1))) (fun c _ => n - (intOf c).toNat)
      case atStart => exact ⟨0, Nat.zero_le _, rfl, Upd.refl _ _, by simpa [rep] using HROW.out⟩
      case round =>
        clear hg d0
        obtain ⟨i, hi, rfl, hup, hrow⟩ := hrel
        have hU : Upd (vblk ls) w wr := HM.out.upd.trans hup (fun q _ e => ⟨j, by have := HN.out; omega, by rw [← HV.out]; exact e⟩)
        obtain ⟨hg, d0⟩ := HAT.out _ _ hU (fun _ _ e => e) j hlt'
        rw [← HV.out, HVS.out] at d0
        have HUP := hid hup; have HR := hid hrow
        clear hup hrow hU
        by_cases hlt2 : i < n
        · have hxl : ls[j].xs.length = n := by have := HROW.out.1; simpa using this
          obtain ⟨gv, cap, old, e, hset, q1, q2, q3, -, -⟩ := SRow.set (m := i) (u := byteV (mkO j)) HR.out (by omega)
          rw [rep_setO hxl hlt2] at hset
          rw [HVS.out] at e
          injection e with e1 e2 e3
          subst e1 e3
          have HSET := hid hset
          have hme := mkO_val j
          simp only [byteV] at HSET
          generalize mkO j = m at hme HSET
          clear hset hxl
          go_wp2
          go_roundw
          case rel => exact ⟨i + 1, by omega, by go_num, HUP.out.setCell (p := ⟨gv, i, none⟩) (fun _ => by rw [HVS.out]; rfl) _, HSET.out⟩
          case measure => simp [intOf]; omega
        · obtain rfl : i = n := by omega
          have hxl : ls[j].xs.length = i := by have := HROW.out.1; simpa using this
          have hfin : SRow wr 5 1 ls[j].v ls[j].n (rep ls[j].n [byteV (mkO j)]) := by
            have h := HR.out
            rw [List.drop_eq_nil_of_le (by omega), List.append_nil, HV.out, HNE.out] at h
            exact h
          have HF := hid hfin
          clear hfin hxl
          go_wp2
          go_roundw
          case rel => exact ⟨j + 1, by omega, by go_num, HM.out.step HK.out hlt' (HUP.out.mono (fun q _ e => by rw [← HV.out]; exact e)) HF.out⟩
          case measure => simp [intOf]; omega
    · obtain rfl : j = N := by omega
      have hgr0 : GrownO w wr ls 0 (.slice none 0 0) [] := by have h := HM.out; rw [HN.out] at h; exact h.grown
      have HG0 := hid hgr0
      clear hgr0 hm
      go_wp2
      go_loopw [5, 6] (fun mv i wr => ∃ j2 : Nat, j2 ≤ j ∧ i = .int .i64 j2 ∧ ∃ ma mc gs, mv = .slice ma (3 * j2) mc ∧ GrownO w wr ls j2 (.slice ma (3 * j2) mc) gs) (fun _ i _ => j - (intOf i).toNat)
      case atStart => exact ⟨0, Nat.zero_le _, rfl, none, 0, [], rfl, HG0.out⟩
      case round =>
        obtain ⟨j2, hj2, rfl, ma, mc, gs, rfl, hgr⟩ := hrel
        have HG := hid hgr
        by_cases hlt : j2 < j
        · have hlt' : j2 < ls.length := by have := HN.out; omega
          obtain rfl := HLA.out (by omega)
          obtain ⟨hg, d0⟩ := HAT.out _ _ hgr.upd (fun _ _ e => e) j2 hlt'
          have hrow := hgr.rest j2 hlt' (Nat.le_refl _)
          have hsh := HSH.out j2 hlt'
          obtain ⟨v, hv⟩ : ∃ v, v = ls[j2].v := ⟨_, rfl⟩
          obtain ⟨n, hn⟩ : ∃ n, n = ls[j2].n := ⟨_, rfl⟩
          have HV := hid hv; have HNE := hid hn
          rw [← hv] at d0
          rw [← hn] at hsh
          rw [← hv, ← hn] at hrow
          obtain ⟨va, vc, hvs, hv1, hv2, hz⟩ := SRow.slice hrow
          have HVS := hid hvs; have HROW := hid hrow; have HZ := hid hz
          rw [hvs] at d0
          clear hgr hrow hv hn hvs hz
          obtain ⟨wo, rfl⟩ : ∃ wo, wo = wr := ⟨_, rfl⟩
          have HCELL := hid (show ∀ wx, Upd (fun q => v.ownBlock = some q) wo wx → ga < wx.heap.size ∧ wx.cell? ⟨ga, j2, none⟩ = some (.slice va n vc) from fun wx hx => by
            have h1 := HAT.out _ _ (HG.out.upd.trans hx (fun q _ e => ⟨j2, hlt', by rw [← HV.out]; exact e⟩)) (fun _ _ e => e) j2 hlt'
            rw [← HV.out, HVS.out] at h1
            exact h1)
          have hj6 : j2 ≤ 1000000 := by omega
          have HROWS := hid (show SRow wo 5 1 (.slice va n vc) n (rep n [byteV (mkO j2)]) from by rw [← HVS.out]; exact HROW.out)
          go_upto_region 12 with fail
          have hgA := (HCELL.out wo (Upd.refl (fun q => v.ownBlock = some q) wo)).1
          have hHeldA : (fun V => V.cell? ⟨ga, j2, none⟩ = some (.slice va n vc)) wo.drew := (HCELL.out wo (Upd.refl (fun q => v.ownBlock = some q) wo)).2
          refine wp_region_l (fun V => V.cell? ⟨ga, j2, none⟩ = some (.slice va n vc)) 7 8 rfl (by kernel_rfl) ?_
          refine' wpAnyL_take 0 [2, 3, 6, 7] (v := _) rfl (by kernel_rfl) (by kernel_rfl) (by kernel_rfl) (by kernel_rfl) (by simp) (fun _ _ _ h => h) (Or.inl ⟨by rfl, ?hA0⟩) (by assumption) ?rA0
          case hA0 => (intro wS hSw; (try dsimp only at hSw); go_simp; (try with_reducible rfl))
          (try simp only [Act.put, List.setIfInBounds_toArray, List.set_cons_zero, List.set_cons_succ])
          refine' wpAnyL_take 1 [2, 3, 6, 7] (v := _) rfl (by kernel_rfl) (by kernel_rfl) (by kernel_rfl) (by kernel_rfl) (by simp) (fun _ _ _ h => h) (Or.inl ⟨by rfl, ?hA1⟩) (by assumption) ?rA1
          case hA1 => (intro wS hSw; (try dsimp only at hSw); go_simp; (try with_reducible rfl))
          (try simp only [Act.put, List.setIfInBounds_toArray, List.set_cons_zero, List.set_cons_succ])
          refine' wpAnyL_take 2 [3, 6, 7] (v := _) rfl (by kernel_rfl) (by kernel_rfl) (by kernel_rfl) (by kernel_rfl) (by simp) (fun _ _ _ h => h) (Or.inl ⟨by rfl, ?hA2⟩) (by assumption) ?rA2
          case hA2 => (intro wS hSw; (try dsimp only at hSw); go_simp; (try with_reducible rfl))
          (try simp only [Act.put, List.setIfInBounds_toArray, List.set_cons_zero, List.set_cons_succ])
          refine' wpAnyL_take 3 [6, 7] (v := _) rfl (by kernel_rfl) (by kernel_rfl) (by kernel_rfl) (by kernel_rfl) (by simp) (fun _ _ _ h => h) (Or.inl ⟨by rfl, ?hA3⟩) (by assumption) ?rA3
          case hA3 => (intro wS hSw; (try dsimp only at hSw); go_simp; (try with_reducible rfl))
          (try simp only [Act.put, List.setIfInBounds_toArray, List.set_cons_zero, List.set_cons_succ])
          refine' wpAnyL_take 4 [5, 6, 7] (v := _) rfl (by kernel_rfl) (by kernel_rfl) (by kernel_rfl) (by kernel_rfl) (by simp) (fun _ _ _ h => h) (Or.inl ⟨by rfl, ?hA4⟩) (by assumption) ?rA4
          case hA4 => (intro wS hSw; (try dsimp only at hSw); go_simp; (try with_reducible rfl))
          (try simp only [Act.put, List.setIfInBounds_toArray, List.set_cons_zero, List.set_cons_succ])
          refine wpAnyL_one 5 rfl (by kernel_rfl) (fun K hK => ?_)
          go_simp
          go_at_call 78
          refine (tail_any wo.drew j2 1 hj6 (by omega)).mono ?_
          rintro e wa ⟨aoA, capA, rfl, hnA⟩
          have HUAA := hid (show Upd (fun _ => False) wo wa from (Upd.refl (fun _ => False) wo).drew.trans hnA.upd (fun _ _ e => e))
          have hHeldaA : (fun V => V.cell? ⟨ga, j2, none⟩ = some (.slice va n vc)) wa := (HCELL.out wa (((Upd.refl (fun q => v.ownBlock = some q) wo)).trans HUAA.out (fun _ _ e => e.elim))).2
          obtain ⟨gvA, w1, hrunA, ⟨ysA, hysA, hyfA⟩, huA, hoA, hkA, hkrA⟩ := tail_more (t := j2) (n := n) (L := n) (SRow.upd HROWS.out HUAA.out (fun _ _ e => e)) (Nat.le_refl _) hnA (by omega) (by omega) rep_fO 22
          obtain ⟨goA, gcA, hgsA, -, -, -⟩ := SRow.slice hysA
          rw [hgsA] at hrunA hysA hoA
          have HRUNA := hid hrunA
          have HYSA := hid (Vw.of_row hysA hyfA)
          have HOA := hid (show ∀ q, (Value.slice goA (n + 1) gcA).ownBlock = some q → v.ownBlock = some q ∨ wo.heap.size ≤ q from fun q e => by
            rcases hoA q e with e1 | e1
            · left; rw [HVS.out]; exact e1
            · right; exact Nat.le_trans ((Upd.refl (fun q => v.ownBlock = some q) wo)).size (Nat.le_trans HUAA.out.size e1))
          have HLTA := hid (show ∀ q, (Value.slice goA (n + 1) gcA).ownBlock = some q → q < w1.heap.size from fun q e => hysA.lt q e)
          have HKPA := hid (show Keeps (fO j2 n) wo w1 from (Keeps.of_upd HUAA.out).trans hkA)
          have HROWA := hid hkrA
          have HUPA := hid (show Upd (fun q => v.ownBlock = some q) wo w1 from (((Upd.refl (fun q => v.ownBlock = some q) wo)).trans HUAA.out (fun _ _ e => e.elim)).trans huA (fun q _ e => by rw [HVS.out]; exact e))
          have hHeldbA : (fun V => V.cell? ⟨ga, j2, none⟩ = some (.slice va n vc)) w1 := (HCELL.out w1 HUPA.out).2
          clear hnA hrunA hysA hyfA huA hoA hkA hkrA hgsA
          refine hK.out _ _ (fun _ => hHeldaA) ?_
          clear hK K
          (try simp only [Act.put, List.setIfInBounds_toArray, List.set_cons_zero, List.set_cons_succ])
          refine wpAnyL_one 6 rfl (by kernel_rfl) (fun K hK => ?_)
          refine step_append_eq rfl (.tmp 45) (.tmp 47) 22 rfl rfl rfl HRUNA.out ?_
          refine hK.out _ _ (fun _ => hHeldbA) ?_
          clear hK K
          (try simp only [Act.put, List.setIfInBounds_toArray, List.set_cons_zero, List.set_cons_succ])
          refine wpAnyL_one 7 rfl (by kernel_rfl) (fun K hK => ?_)
          go_simp
          refine hK.out _ _ (fun _ => hHeldbA) ?_
          clear hK K
          (try simp only [Act.put, List.setIfInBounds_toArray, List.set_cons_zero, List.set_cons_succ])
          refine wpAnyL_done (by kernel_rfl) ?_ _
          clear hHeldA hHeldaA hHeldbA hgA HRUNA
          go_upto_region 13 with fail
          have hgB := (HCELL.out w1 HUPA.out).1
          have hHeldB : (fun V => V.cell? ⟨ga, j2, none⟩ = some (.slice va n vc)) w1.drew := (HCELL.out w1 HUPA.out).2
          refine wp_region_l (fun V => V.cell? ⟨ga, j2, none⟩ = some (.slice va n vc)) 7 8 rfl (by kernel_rfl) ?_
          refine' wpAnyL_take 0 [2, 3, 6, 7] (v := _) rfl (by kernel_rfl) (by kernel_rfl) (by kernel_rfl) (by kernel_rfl) (by simp) (fun _ _ _ h => h) (Or.inl ⟨by rfl, ?hB0⟩) (by assumption) ?rB0
          case hB0 => (intro wS hSw; (try dsimp only at hSw); go_simp; (try with_reducible rfl))
          (try simp only [Act.put, List.setIfInBounds_toArray, List.set_cons_zero, List.set_cons_succ])
          refine' wpAnyL_take 1 [2, 3, 6, 7] (v := _) rfl (by kernel_rfl) (by kernel_rfl) (by kernel_rfl) (by kernel_rfl) (by simp) (fun _ _ _ h => h) (Or.inl ⟨by rfl, ?hB1⟩) (by assumption) ?rB1
          case hB1 => (intro wS hSw; (try dsimp only at hSw); go_simp; (try with_reducible rfl))
          (try simp only [Act.put, List.setIfInBounds_toArray, List.set_cons_zero, List.set_cons_succ])
          refine' wpAnyL_take 2 [3, 6, 7] (v := _) rfl (by kernel_rfl) (by kernel_rfl) (by kernel_rfl) (by kernel_rfl) (by simp) (fun _ _ _ h => h) (Or.inl ⟨by rfl, ?hB2⟩) (by assumption) ?rB2
          case hB2 => (intro wS hSw; (try dsimp only at hSw); go_simp; (try with_reducible rfl))
          (try simp only [Act.put, List.setIfInBounds_toArray, List.set_cons_zero, List.set_cons_succ])
          refine' wpAnyL_take 3 [6, 7] (v := _) rfl (by kernel_rfl) (by kernel_rfl) (by kernel_rfl) (by kernel_rfl) (by simp) (fun _ _ _ h => h) (Or.inl ⟨by rfl, ?hB3⟩) (by assumption) ?rB3
          case hB3 => (intro wS hSw; (try dsimp only at hSw); go_simp; (try with_reducible rfl))
          (try simp only [Act.put, List.setIfInBounds_toArray, List.set_cons_zero, List.set_cons_succ])
          refine' wpAnyL_take 4 [5, 6, 7] (v := _) rfl (by kernel_rfl) (by kernel_rfl) (by kernel_rfl) (by kernel_rfl) (by simp) (fun _ _ _ h => h) (Or.inl ⟨by rfl, ?hB4⟩) (by assumption) ?rB4
          case hB4 => (intro wS hSw; (try dsimp only at hSw); go_simp; (try with_reducible rfl))
          (try simp only [Act.put, List.setIfInBounds_toArray, List.set_cons_zero, List.set_cons_succ])
          refine wpAnyL_one 5 rfl (by kernel_rfl) (fun K hK => ?_)
          go_simp
          go_at_call 78
          refine (tail_any w1.drew j2 2 hj6 (by omega)).mono ?_
          rintro e wb ⟨aoB, capB, rfl, hnB⟩
          have HUAB := hid (show Upd (fun _ => False) w1 wb from (Upd.refl (fun _ => False) w1).drew.trans hnB.upd (fun _ _ e => e))
          have hHeldaB : (fun V => V.cell? ⟨ga, j2, none⟩ = some (.slice va n vc)) wb := (HCELL.out wb ((HUPA.out).trans HUAB.out (fun _ _ e => e.elim))).2
          obtain ⟨gvB, w2, hrunB, ⟨ysB, hysB, hyfB⟩, huB, hoB, hkB, hkrB⟩ := tail_more (t := j2) (n := n) (L := n) (SRow.upd HROWA.out HUAB.out (fun _ _ e => e)) (Nat.le_refl _) hnB (by omega) (by omega) rep_fO 22
          obtain ⟨goB, gcB, hgsB, -, -, -⟩ := SRow.slice hysB
          rw [hgsB] at hrunB hysB hoB
          have HRUNB := hid hrunB
          have HYSB := hid (Vw.of_row hysB hyfB)
          have HOB := hid (show ∀ q, (Value.slice goB (n + 2) gcB).ownBlock = some q → v.ownBlock = some q ∨ wo.heap.size ≤ q from fun q e => by
            rcases hoB q e with e1 | e1
            · left; rw [HVS.out]; exact e1
            · right; exact Nat.le_trans (HUPA.out).size (Nat.le_trans HUAB.out.size e1))
          have HLTB := hid (show ∀ q, (Value.slice goB (n + 2) gcB).ownBlock = some q → q < w2.heap.size from fun q e => hysB.lt q e)
          have HKPB := hid (show Keeps (fO j2 n) w1 w2 from (Keeps.of_upd HUAB.out).trans hkB)
          have HROWB := hid hkrB
          have HUPB := hid (show Upd (fun q => v.ownBlock = some q) wo w2 from ((HUPA.out).trans HUAB.out (fun _ _ e => e.elim)).trans huB (fun q _ e => by rw [HVS.out]; exact e))
          have hHeldbB : (fun V => V.cell? ⟨ga, j2, none⟩ = some (.slice va n vc)) w2 := (HCELL.out w2 HUPB.out).2
          clear hnB hrunB hysB hyfB huB hoB hkB hkrB hgsB
          refine hK.out _ _ (fun _ => hHeldaB) ?_
          clear hK K
          (try simp only [Act.put, List.setIfInBounds_toArray, List.set_cons_zero, List.set_cons_succ])
          refine wpAnyL_one 6 rfl (by kernel_rfl) (fun K hK => ?_)
          refine step_append_eq rfl (.tmp 52) (.tmp 54) 22 rfl rfl rfl HRUNB.out ?_
          refine hK.out _ _ (fun _ => hHeldbB) ?_
          clear hK K
          (try simp only [Act.put, List.setIfInBounds_toArray, List.set_cons_zero, List.set_cons_succ])
          refine wpAnyL_one 7 rfl (by kernel_rfl) (fun K hK => ?_)
          go_simp
          refine hK.out _ _ (fun _ => hHeldbB) ?_
          clear hK K
          (try simp only [Act.put, List.setIfInBounds_toArray, List.set_cons_zero, List.set_cons_succ])
          refine wpAnyL_done (by kernel_rfl) ?_ _
          clear hHeldB hHeldaB hHeldbB hgB HRUNB
          have hgC := (HCELL.out w2 HUPB.out).1
          have d0C := (HCELL.out w2 HUPB.out).2
          clear hg d0
          go_wp2
          go_loopw [9, 10] (fun gvv kv wr => ∃ k : Nat, k ≤ 70 ∧ kv = .int .i64 k ∧ ∃ go gc, gvv = .slice go (n + k) gc ∧ (∃ ys, SRow wr 5 1 (.slice go (n + k) gc) (n + k) ys ∧ ∀ j u, ys[j]? = some u → u = fO j2 n j) ∧ Upd (fun q => v.ownBlock = some q) wo wr ∧ Keeps (fO j2 n) w2 wr ∧ ∀ q, (Value.slice go (n + k) gc).ownBlock = some q → v.ownBlock = some q ∨ wo.heap.size ≤ q) (fun _ kv _ => 70 - (intOf kv).toNat)
          case atStart => exact ⟨0, by omega, rfl, va, vc, rfl, ⟨_, HROWB.out, rep_fO⟩, HUPB.out, Keeps.refl _ _, fun q e => .inl (by rw [HVS.out]; exact e)⟩
          case round =>
            clear hgC d0C
            obtain ⟨k, hk, rfl, go, gc, rfl, ⟨ys, hys, hyf⟩, hup, hkp, hown⟩ := hrel
            have HYS := hid hys; have HYF := hid hyf; have HUP := hid hup; have HKP := hid hkp; have HOWN := hid hown
            clear hys hyf hup hkp hown
            by_cases hk7 : k < 70
            · have HTL := hid (tail_any wr j2 1 hj6 (by omega))
              have hk7i : (k : Int) < 70 := by omega
              go_wp2_with fail
              refine HTL.out.mono ?_
              rintro e wt ⟨aot, capt, rfl, hnt⟩
              obtain ⟨gvt, wz, hrunz, ⟨yz, hyz, hyfz⟩, huz, hoz, hkz, hkrz⟩ := tail_more (t := j2) (n := n) (L := n + k) (SRow.upd HYS.out hnt.upd (fun _ _ e => e)) (by omega) hnt (by omega) (by omega) HYF.out 22
              obtain ⟨goz, gcz, hgz, -, -, -⟩ := SRow.slice hyz
              rw [hgz] at hrunz hyz hoz
              have HRZ := hid hrunz
              have HRES := hid (show (∃ ys, SRow wz 5 1 (.slice goz (n + (k + 1)) gcz) (n + (k + 1)) ys ∧ ∀ j u, ys[j]? = some u → u = fO j2 n j) ∧ Upd (fun q => v.ownBlock = some q) wo wz ∧ Keeps (fO j2 n) w2 wz ∧ ∀ q, (Value.slice goz (n + (k + 1)) gcz).ownBlock = some q → v.ownBlock = some q ∨ wo.heap.size ≤ q from by
                refine ⟨⟨yz, hyz, hyfz⟩, (HUP.out.trans hnt.upd (fun _ _ e => e.elim)).trans huz (fun q hq e => (HOWN.out q e).resolve_right (by omega)), (HKP.out.trans (Keeps.of_upd hnt.upd)).trans hkz, fun q e => ?_⟩
                rcases hoz q e with e1 | e1
                · exact HOWN.out q e1
                · right; exact Nat.le_trans HUP.out.size (Nat.le_trans hnt.upd.size e1))
              clear hnt hrunz hyz hyfz huz hoz hkz hkrz hgz HTL
              go_wp2_with (at_builtin; refine wpList_append_run rfl _ _ _ rfl rfl rfl HRZ.out ?_)
              go_roundw
              case rel => exact ⟨k + 1, by omega, by go_num, goz, gcz, rfl, HRES.out⟩
              case measure => simp [intOf]; omega
            · obtain rfl : k = 70 := by omega
              have hmvn : ∀ q, (Value.slice ma (3 * j2) mc).ownBlock = some q → ¬ v.ownBlock = some q := fun q e1 e2 => by
                have h1 := HG.out.new q e1
                have h2 := HK.out.lt ⟨j2, hlt', by rw [← HV.out]; exact e2⟩
                omega
              have hrm := SRow.upd HG.out.row HUP.out hmvn
              have hal : Upd (fun _ => False) wr (wr.alloc (.cells [Value.slice goA (n + 1) gcA, .slice goB (n + 2) gcB, .slice go (n + 70) gc].toArray 22)) := (Upd.refl _ _).alloc _
              obtain ⟨mv', w4, hrun4, r4, u4, o4, -⟩ := rowLists.more (SRow.upd hrm hal (fun _ _ e => e)) ⟨wr.heap.size, 0, none⟩ 3 3 [Value.slice goA (n + 1) gcA, .slice goB (n + 2) gcB, .slice go (n + 70) gc] rfl (new_cells wr 22 _) (fun u hu => by simp at hu; rcases hu with rfl | rfl | rfl <;> rfl) (by omega) 43
              obtain ⟨ma4, mc4, hms4, -, -, -⟩ := SRow.slice r4
              rw [hms4] at hrun4 r4 o4
              have hrun4' : (Builtin.append_ #[43, 43] 43 #[.slice ma (3 * j2) mc, .slice (some ⟨wr.heap.size, 0, none⟩) 3 3]).run Tryz.prog (wr.alloc (.cells #[.slice goA (n + 1) gcA, .slice goB (n + 2) gcB, .slice go (n + 70) gc] 22)) = .ok (.slice ma4 (3 * j2 + 3) mc4) w4 := hrun4
              have hstep := HG.out.step HK.out hlt' (w1 := wr) (w2 := w4) (g1 := .slice goA (n + 1) gcA) (g2 := .slice goB (n + 2) gcB) (g3 := .slice go (n + 70) gc) (HUP.out.mono (fun q _ e => by rw [← HV.out]; exact e))
                (by rw [← HV.out, ← HNE.out, HVS.out]; exact (Vw.of_row HROWB.out rep_fO).keeps HKP.out)
                (by rw [← HNE.out]; exact (HYSA.out.keeps HKPB.out).keeps HKP.out)
                (by rw [← HNE.out]; exact HYSB.out.keeps HKP.out)
                (by rw [← HNE.out]; exact Vw.of_row HYS.out HYF.out)
                (fun g hgm q e => by
                  simp only [List.mem_cons, List.not_mem_nil, or_false] at hgm
                  rcases hgm with rfl | rfl | rfl
                  · exact ⟨by rw [← HV.out]; exact HOA.out q e, Nat.lt_of_lt_of_le (HLTA.out q e) (Nat.le_trans HKPB.out.1 HKP.out.1)⟩
                  · exact ⟨by rw [← HV.out]; exact HOB.out q e, Nat.lt_of_lt_of_le (HLTB.out q e) HKP.out.1⟩
                  · exact ⟨by rw [← HV.out]; exact HOWN.out q e, HYS.out.lt q e⟩)
                r4 ((hal.mono (fun _ _ e => e.elim)).trans u4 (fun _ _ e => e)) (fun q e => (o4 q e).imp id (fun e => Nat.le_trans hal.size e))
              have HR4 := hid hrun4'; have HST := hid hstep
              clear hrun4 hrun4' hstep hrm r4 u4 o4 hms4 hal hmvn
              obtain ⟨M3, hM3⟩ : ∃ x, x = 3 * j2 := ⟨_, rfl⟩
              have HM3 := hid hM3
              rw [← hM3] at HR4 ⊢
              clear hM3
              go_wp2_with (at_builtin; refine wpList_append_run rfl _ _ _ rfl rfl rfl HR4.out ?_)
              go_roundw
              case rel => exact ⟨j2 + 1, by omega, by go_num, ma4, mc4, _, by rw [HM3.out, show 3 * (j2 + 1) = 3 * j2 + 3 by omega], by rw [show 3 * (j2 + 1) = 3 * j2 + 3 by omega]; exact HST.out⟩
              case measure => simp [intOf]; omega
        · obtain rfl : j2 = j := by omega
          clear hgr
          go_wp2
          go_ret
          exact ⟨ma, mc, gs, rfl, HG.out⟩

end Go.Proofs.YtgaidmohdhaonaaGreatDoor

namespace Go.Proofs.YtgaidmohdhaonaaGreatDoor
set_option linter.unusedVariables false
set_option linter.unusedSimpArgs false
set_option linter.unnecessarySimpa false
set_option linter.unusedSectionVars false
open Go Go.RowKit

/-- How long the r-th of the three lengthened lists is. -/
def longO (n r : Nat) : Nat := if r = 0 then n + 1 else if r = 1 then n + 2 else n + 70

/-- All lists still hold their marks, and what was lengthened too. -/
structure StandO (W : World) (lv mv : Value) (ls : List LV) (gs : List Value) : Prop where
  rowL : SRow W 22 1 lv ls.length (ls.map LV.v)
  rowM : SRow W 22 1 mv (3 * ls.length) gs
  base : ∀ t (h : t < ls.length), Vw W ls[t].v ls[t].n (fO t ls[t].n)
  more : ∀ t (h : t < ls.length) r, r < 3 → ∃ g, gs[3 * t + r]? = some g ∧ Vw W g (longO ls[t].n r) (fO t ls[t].n)
  short : ∀ t (h : t < ls.length), ls[t].n ≤ 1000000

theorem StandO.cells {W : World} {lv mv : Value} {ls : List LV} {gs : List Value} (h : StandO W lv mv ls gs) {t : Nat} (ht : t < ls.length) :
    ∃ la lc ga ma mc gm va vc, lv = .slice la ls.length lc ∧ la = some ⟨ga, 0, none⟩ ∧ mv = .slice ma (3 * ls.length) mc ∧ ma = some ⟨gm, 0, none⟩ ∧ ga < W.heap.size ∧ W.cell? ⟨ga, t, none⟩ = some (.slice va ls[t].n vc) ∧ ls[t].v = .slice va ls[t].n vc ∧ gm < W.heap.size ∧
      ∀ r, r < 3 → ∃ ao c, W.cell? ⟨gm, 3 * t + r, none⟩ = some (.slice ao (longO ls[t].n r) c) ∧ Vw W (.slice ao (longO ls[t].n r) c) (longO ls[t].n r) (fO t ls[t].n) := by
  obtain ⟨ga, lc, e1, e2, e3⟩ := SRow.cell h.rowL (k := t) (u := ls[t].v) (by simp [ht])
  obtain ⟨va, vc, hv, -⟩ := h.base t ht
  obtain ⟨g0, hg0, -⟩ := h.more t ht 0 (by omega)
  obtain ⟨gm, mc, m1, m2, -⟩ := SRow.cell h.rowM hg0
  refine ⟨_, lc, ga, _, mc, gm, va, vc, e1, rfl, m1, rfl, e2, by rw [e3, hv], hv, m2, fun r hr => ?_⟩
  obtain ⟨g, hg, hvw⟩ := h.more t ht r hr
  obtain ⟨gm', mc', m1', -, m3⟩ := SRow.cell h.rowM hg
  rw [m1] at m1'
  injection m1' with i1 _ _
  injection i1 with i1
  injection i1 with i1
  subst i1
  obtain ⟨ao, c, rfl, r1, r2, r3, r4⟩ := hvw
  exact ⟨ao, c, m3, ao, c, rfl, r1, r2, r3, r4⟩

set_option maxRecDepth 100000 in
set_option maxHeartbeats 12800000 in
theorem stand_any {w : World} {lv mv : Value} {ls : List LV} {gs : List Value} (h : StandO w lv mv ls gs) (hN : ls.length ≤ 100000) :
    Calls Tryz.prog 25 #[lv, mv] w fun e w' => e = .returned (.bool true) ∧ w' = w := by
  obtain ⟨la, lc, hlv, -, -, -⟩ := SRow.slice h.rowL
  obtain ⟨ma, mc, hmv, -, -, -⟩ := SRow.slice h.rowM
  subst hlv; subst hmv
  have H := hid h
  obtain ⟨N, hNN⟩ : ∃ N, N = ls.length := ⟨_, rfl⟩
  have HN := hid hNN
  rw [← hNN] at H ⊢
  rw [← hNN] at hN
  obtain ⟨N3, hN3⟩ : ∃ N3, N3 = 3 * N := ⟨_, rfl⟩
  rw [← hN3] at H ⊢
  have hn3i : N3 = 3 * N := hN3
  clear h hNN hN3
  have HN3N := hid hn3i
  clear hn3i
  go_enter Tryz.func25, Tryz.ntmps25
  go_wp2
  obtain ⟨w0, rfl⟩ : ∃ w0, w0 = w := ⟨_, rfl⟩
  go_loopw [5] (fun i wr => wr = w0 ∧ ∃ t : Nat, t ≤ N ∧ i = .int .i64 t) (fun i _ => N - (intOf i).toNat)
  case atStart => exact ⟨rfl, 0, Nat.zero_le _, rfl⟩
  case round =>
    obtain ⟨hww, t, ht, rfl⟩ := hrel
    obtain rfl := hww.symm
    by_cases hlt : t < N
    · have hlt' : t < ls.length := by have := HN.out; omega
      obtain ⟨la', lc', ga, ma', mc', gm, va, vc, e1, e2, e3, e4, hga, d0, hve, hgm, hmore⟩ := H.out.cells hlt'
      subst e2; subst e4
      have hla : la = some ⟨ga, 0, none⟩ := by injection e1
      have hma : ma = some ⟨gm, 0, none⟩ := by injection e3
      subst hla; subst hma
      have hbase := H.out.base t hlt'
      have hsh := H.out.short t hlt'
      obtain ⟨n, hn⟩ : ∃ n, n = ls[t].n := ⟨_, rfl⟩
      rw [hve] at hbase
      rw [← hn] at d0 hbase hsh hmore
      obtain ⟨q, hq⟩ : ∃ q, q = 3 * t := ⟨_, rfl⟩
      rw [← hq] at hmore
      have hqi : 3 * (t : Int) = (q : Int) := by omega
      have hq1 : q + 2 < N3 := by have := HN3N.out; omega
      have hqa : (q : Int) < (N3 : Int) := by omega
      have hqb : (q : Int) + 1 < (N3 : Int) := by omega
      have hqc : (q : Int) + 2 < (N3 : Int) := by omega
      obtain ⟨ao0, c0, d1, hv0⟩ := hmore 0 (by omega)
      obtain ⟨ao1, c1, d2, hv1⟩ := hmore 1 (by omega)
      obtain ⟨ao2, c2, d3, hv2⟩ := hmore 2 (by omega)
      simp only [longO, if_true, Nat.add_zero, show ¬ ((1 : Nat) = 0) from by decide, show ¬ ((2 : Nat) = 0) from by decide, show ¬ ((2 : Nat) = 1) from by decide, if_false] at d1 d2 d3 hv0 hv1 hv2
      have HMORE := hid hmore; have HBASE := hid hbase
      clear hmore hv0 hv1 hv2 hn hq e1 e3 hve hbase hlt'
      have HD0 := hid d0
      go_upto_region 7 with fail
      clear d1 d2 d3 d0
      go_wp2
      go_loopw [7] (fun kv wr => wr = wr ∧ wr = w0 ∧ ∃ r : Nat, r ≤ 3 ∧ kv = .int .i64 ((q + r : Nat) : Int)) (fun kv _ => q + 3 - (intOf kv).toNat)
      case atStart => exact ⟨rfl, rfl, 0, by omega, rfl⟩
      case round =>
        obtain ⟨-, hww2, r, hr, rfl⟩ := hrel
        obtain rfl := hww2.symm
        obtain ⟨s, hs⟩ : ∃ s, s = q + r := ⟨_, rfl⟩
        rw [← hs]
        by_cases hr3 : r < 3
        · obtain ⟨ao, c, dg, hvw⟩ := HMORE.out r hr3
          rw [← hs] at dg
          obtain ⟨L, hL⟩ : ∃ L, L = longO n r := ⟨_, rfl⟩
          rw [← hL] at dg hvw
          have hsi : (s : Int) < (q : Int) + 3 := by omega
          have hsN : (s : Int) < (N3 : Int) := by omega
          have HVW := hid hvw; have HS := hid hs
          have hLb : L ≤ 1000070 := by rw [hL]; unfold longO; split <;> (try split) <;> omega
          clear hL hvw hs
          go_wp2
          go_loopw [8] (fun jv wr => wr = wr ∧ wr = w0 ∧ ∃ j : Nat, j ≤ L ∧ jv = .int .i64 j) (fun jv _ => L - (intOf jv).toNat)
          case atStart => exact ⟨rfl, rfl, 0, Nat.zero_le _, rfl⟩
          case round =>
            obtain ⟨-, hww3, j, hj, rfl⟩ := hrel
            obtain rfl := hww3.symm
            have d0 := HD0.out
            by_cases hjL : j < L
            · obtain ⟨ao', c', e', -, -, -, hcell⟩ := HVW.out
              injection e' with i1 _ i3
              subst i1; subst i3
              obtain ⟨b, rfl, hb, dj⟩ := hcell j hjL
              have hjLi : (j : Int) < (L : Int) := by omega
              have hme := mkO_val t
              have hte := tlO_val t
              by_cases hjn : j < n
              · obtain ⟨va', vc', e9, -, -, -, hcell9⟩ := HBASE.out
                injection e9 with i1 _ i3
                subst i1; subst i3
                obtain ⟨b9, rfl, hb9, dj9⟩ := hcell9 j hjn
                unfold fO at dj dj9
                rw [if_pos hjn] at dj dj9
                simp only [byteV] at dj dj9
                have hjni : (j : Int) < (n : Int) := by omega
                have hjn2 : ¬ ((n : Int) ≤ (j : Int)) := by omega
                obtain ⟨m, hm⟩ : ∃ m, m = mkO t := ⟨_, rfl⟩
                rw [← hm] at dj dj9 hme
                have hbb : (((m.toNat : Nat) : Int) != ((m.toNat : Nat) : Int)) = false := by simp
                clear hcell hcell9 hte hm hjn
                go_wp2
                go_roundw
                case rel => exact ⟨by trivial, by trivial, j + 1, by omega, by go_num⟩
                case measure => simp [intOf]; omega
              · unfold fO at dj
                rw [if_neg hjn] at dj
                simp only [byteV] at dj
                have hjni : ¬ ((j : Int) < (n : Int)) := by omega
                have hjn2 : (n : Int) ≤ (j : Int) := by omega
                obtain ⟨m, hm⟩ : ∃ m, m = tlO t := ⟨_, rfl⟩
                rw [← hm] at dj hte
                clear hcell hm hjn
                go_wp2
                go_roundw
                case rel => exact ⟨by trivial, by trivial, j + 1, by omega, by go_num⟩
                case measure => simp [intOf]; omega
            · obtain rfl : j = L := by omega
              go_wp2
              go_roundw
              case rel => exact ⟨by trivial, by trivial, r + 1, by omega, by have := HS.out; subst this; go_num⟩
              case measure => simp [intOf]; omega
        · obtain rfl : r = 3 := by omega
          have hsi : ¬ ((s : Int) < (q : Int) + 3) := by omega
          clear hs
          go_wp2
          go_roundw
          case rel => exact ⟨by trivial, t + 1, by omega, by go_num⟩
          case measure => simp [intOf]; omega
    · obtain rfl : t = N := by omega
      go_wp2
      go_ret
      exact ⟨rfl, rfl⟩

end Go.Proofs.YtgaidmohdhaonaaGreatDoor
