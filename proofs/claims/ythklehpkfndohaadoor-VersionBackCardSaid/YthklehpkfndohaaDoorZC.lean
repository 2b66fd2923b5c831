/-
  stratalaw10.VersionBack.
-/
import Derived.Test.YthklehpkfndohaaDoorYU
import Derived.Test.YthklehpkfndohaaDoorZA
import Derived.Test.YthklehpkfndohaaDoorZB
import Derived.Test.YthklehpkfndohaaDoorYP
namespace Go.Proofs.YthklehpkfndohaaDoor
set_option linter.unusedVariables false
set_option linter.unusedSimpArgs false
set_option linter.unnecessarySimpa false
set_option linter.unusedSectionVars false
open Go Go.RowKit

theorem decodeA_enc {b : List UInt8} {x : VerA} (h : decodeA b = some x) : encodeB x = b := by
  unfold decodeA at h
  split at h
  · cases h
  split at h
  · cases h
  split at h
  · cases h
  split at h
  · rename_i hh
    injection h with h
    rw [← h]; exact hh.2
  · cases h

theorem encodeB_len {x : VerA} (h : okA x = true) : (encodeB x).length ≤ 400000 := by
  have := (body_len h).1
  have h2 := frameB_length (bodyB x)
  simp [encodeB, magicB]
  omega

theorem zeroAt (w : World) : VerAt w (.agg (verC 0 0 0 0 0 (.slice none 0 0) (.slice none 0 0))) zeroVer :=
  ⟨none, 0, none, 0, rfl, ⟨none, 0, rfl, by decide, by decide, fun _ => ⟨rfl, rfl⟩, fun j hj => absurd hj (by simp [zeroVer])⟩, ⟨none, 0, rfl, by decide, by decide, fun k hk => absurd hk (by simp [zeroVer])⟩⟩

set_option maxRecDepth 100000 in
set_option maxHeartbeats 6400000 in
theorem versionBack_walk {w : World} {va vb : Value} {x : VerA} {b : List UInt8} (hT : TabIn w) (hv : VerAt w va x) (hin : VerIn x) (hb : BAt w vb b) (hl : b.length ≤ 140737488351232) :
    Calls Tryd.prog 3 #[va, vb] w fun e w' => e = .returned (.bool true) ∧ Upd (fun _ => False) w w' := by
  have HV := hid hv; have HT := hid hT; have HB := hid hb; have HIN := hid hin
  obtain ⟨s1, d1, s2, d2, rfl, -, -⟩ := hv
  obtain ⟨m1, hm1⟩ : ∃ m, m = x.state.length := ⟨_, rfl⟩
  obtain ⟨m2, hm2⟩ : ∃ m, m = x.runs.length := ⟨_, rfl⟩
  rw [← hm1, ← hm2] at HV ⊢
  obtain ⟨ao, cap, rfl, -, -, -, -⟩ := hb
  obtain ⟨n, hn⟩ : ∃ n, n = b.length := ⟨_, rfl⟩
  rw [← hn] at HB ⊢
  have HN := hid hn; have HM1 := hid hm1; have HM2 := hid hm2
  have hu1 := (Upd.refl (fun _ => False) w).alloc (.cells #[.int .i64 x.gen, .int .i64 x.flushed, .int .i64 x.next, .int .i64 x.low, .int .i64 x.clock, .slice s1 m1 d1, .slice s2 m2 d2] 25)
  have HU1 := hid hu1
  have HROW := hid (heap_alloc_new w (.cells #[.int .i64 x.gen, .int .i64 x.flushed, .int .i64 x.next, .int .i64 x.low, .int .i64 x.clock, .slice s1 m1 d1, .slice s2 m2 d2] 25))
  have hlk : ∀ r ∈ x.runs, r.first.length ≤ 140737488351232 ∧ r.last.length ≤ 140737488351232 := fun r hr => (HIN.out.2.2.2.2.2.2.2 r hr).2.2.2.2.2.2
  have HLK := hid hlk
  obtain ⟨p2, hp2⟩ : ∃ p, p = w.heap.size := ⟨_, rfl⟩
  rw [← hp2] at HROW
  have HP2 := hid hp2
  clear hT hin hm1 hm2 hn hu1 hlk hp2
  go_enter Tryd.func3, Tryd.ntmps3
  go_upto_region 1 with fail
  rw [← HP2.out]
  generalize w.alloc (.cells #[.int .i64 x.gen, .int .i64 x.flushed, .int .i64 x.next, .int .i64 x.low, .int .i64 x.clock, .slice s1 m1 d1, .slice s2 m2 d2] 25) = W1 at HU1 HROW ⊢
  obtain ⟨⟨z0, z1, z2, z3, z4, z5, z6⟩, -, hzl⟩ := verCells HROW.out
  by_cases hok : okA x = true
  · have HOK := hid hok
    have HEN := hid (encode_any (HT.out.keep HU1.out) (HV.out.keep HU1.out) hok)
    have HCK := hid (show checkA x = 0 from by unfold checkA; rw [if_pos hok])
    have HDE := hid (decode_encode hok (fun r hr => (HIN.out.2.2.2.2.2.2.2 r hr).2.1.2))
    have HLE := hid (encodeB_len hok)
    clear hok
    go_wp2_with fail
    refine HEN.out.mono ?_
    rintro e W2 ⟨v5, rfl, hn5⟩
    obtain ⟨q1, q2, e5, -, -⟩ := hn5.shape
    obtain ⟨n5, hn5l⟩ : ∃ n, n = (encodeB x).length := ⟨_, rfl⟩
    rw [← hn5l] at e5
    subst e5
    have HU2 := hid (HU1.out.trans hn5.upd (fun _ _ e => e))
    have HRO2 := hid (hn5.upd.get HROW.out (fun e => e))
    have HCH := hid (refCheck10_any ((HV.out.keep HU1.out).keep hn5.upd) HLK.out)
    rw [HCK.out] at HCH
    have HD5 := hid hn5.data
    clear hn5 hn5l z0 z1 z2 z3 z4 z5 z6 hzl HEN
    obtain ⟨⟨z0, z1, z2, z3, z4, z5, z6⟩, -, hzl⟩ := verCells HRO2.out
    go_wp2_with fail
    refine HCH.out.mono ?_
    rintro e W3 ⟨rfl, hu3⟩
    have HU3 := hid (HU2.out.trans hu3 (fun _ _ e => e))
    have HRO3 := hid (hu3.get HRO2.out (fun e => e))
    have HDD := hid (decode_any (HT.out.keep HU3.out) (HD5.out.upd hu3 (fun _ _ e => e)).bat (by have := HLE.out; omega))
    rw [HDE.out] at HDD
    clear hu3 z0 z1 z2 z3 z4 z5 z6 hzl HCH
    go_wp2_with fail
    refine HDD.out.mono ?_
    rintro e W4 ⟨⟨v7, rfl, hown⟩, hu4⟩
    have HU4 := hid (HU3.out.trans hu4 (fun _ _ e => e))
    have HRO4 := hid (hu4.get HRO3.out (fun e => e))
    have HAT := hid hown.at
    obtain ⟨t1, e1, t2, e2, rfl, -, -⟩ := hown.at
    rw [← HM1.out, ← HM2.out] at HAT ⊢
    clear hown hu4 HDD
    go_upto_region 4 with fail
    have hua := (Upd.refl (fun _ => False) W4).alloc (.cells #[.int .i64 x.gen, .int .i64 x.flushed, .int .i64 x.next, .int .i64 x.low, .int .i64 x.clock, .slice t1 m1 e1, .slice t2 m2 e2] 25)
    have HU5 := hid (HU4.out.trans hua (fun _ _ e => e))
    have HRO5 := hid (hua.get HRO4.out (fun e => e))
    have HRB := hid (heap_alloc_new W4 (.cells #[.int .i64 x.gen, .int .i64 x.flushed, .int .i64 x.next, .int .i64 x.low, .int .i64 x.clock, .slice t1 m1 e1, .slice t2 m2 e2] 25))
    have HSV := hid (sameVer_any (x := x) (y := x) (by have h := HV.out.keep HU5.out; rw [HM1.out, HM2.out] at h; exact h) (by have h := HAT.out.keep hua; rw [HM1.out, HM2.out] at h; exact h) (HIN.out.2.2.2.2.2.2.1))
    rw [show sameVerB x x = true from sameVerB_iff.2 rfl, ← HM1.out, ← HM2.out] at HSV
    obtain ⟨p7, hp7⟩ : ∃ p, p = W4.heap.size := ⟨_, rfl⟩
    rw [← hp7] at HRB ⊢
    generalize W4.alloc (.cells #[.int .i64 x.gen, .int .i64 x.flushed, .int .i64 x.next, .int .i64 x.low, .int .i64 x.clock, .slice t1 m1 e1, .slice t2 m2 e2] 25) = W5 at HU5 HRO5 HRB HSV ⊢
    obtain ⟨⟨z0, z1, z2, z3, z4, z5, z6⟩, -, hzl⟩ := verCells HRO5.out
    obtain ⟨⟨y0, y1, y2, y3, y4, y5, y6⟩, -, hyl⟩ := verCells HRB.out
    clear hua hp7
    go_wp2_with fail
    refine (lawNum_any _ _ (by omega)).mono ?_
    rintro e W ⟨rfl, hww⟩
    obtain rfl := hww.symm
    go_wp2_with fail
    refine (lawNum_any _ _ (by omega)).mono ?_
    rintro e W ⟨rfl, hww⟩
    obtain rfl := hww.symm
    go_wp2_with fail
    refine HSV.out.mono ?_
    rintro e W8 ⟨rfl, hu8⟩
    have HU8 := hid (HU5.out.trans hu8 (fun _ _ e => e))
    clear hu8 z0 z1 z2 z3 z4 z5 z6 hzl y0 y1 y2 y3 y4 y5 y6 hyl
    go_upto_region 8 with fail
    have HDB := hid (decode_any (HT.out.keep HU8.out) (by rw [HN.out] at HB; exact HB.out.keep HU8.out) hl)
    rw [← HN.out] at HDB
    go_wp2_with fail
    refine HDB.out.mono ?_
    rintro e W9 ⟨hres, hu9⟩
    have HU9 := hid (HU8.out.trans hu9 (fun _ _ e => e))
    clear HDB hu9
    cases hdc : decodeA b with
    | none =>
      rw [hdc] at hres
      obtain rfl := hres
      clear hdc
      go_upto_region 9 with fail
      have hua := (Upd.refl (fun _ => False) W9).alloc (.cells (verC 0 0 0 0 0 (.slice none 0 0) (.slice none 0 0)) 25)
      have HUA := hid (HU9.out.trans hua (fun _ _ e => e))
      have HRB := hid (heap_alloc_new W9 (.cells (verC 0 0 0 0 0 (.slice none 0 0) (.slice none 0 0)) 25))
      obtain ⟨p9, hp9⟩ : ∃ p, p = W9.heap.size := ⟨_, rfl⟩
      rw [← hp9] at HRB ⊢
      generalize W9.alloc (.cells #[.int .i64 0, .int .i64 0, .int .i64 0, .int .i64 0, .int .i64 0, .slice none 0 0, .slice none 0 0] 25) = WA at HUA HRB ⊢
      clear hua hp9
      go_wp2_with fail
      refine (lawNum_any _ _ (by omega)).mono ?_
      rintro e W ⟨rfl, hww⟩
      obtain rfl := hww.symm
      go_wp2_with fail
      refine (started_any (HT.out.keep HUA.out)).mono ?_
      rintro e WB ⟨rfl, hub⟩
      have HUB := hid (HUA.out.trans hub (fun _ _ e => e))
      have HRB2 := hid (hub.get HRB.out (fun e => e))
      obtain ⟨⟨y0, y1, y2, y3, y4, y5, y6⟩, -, hyl⟩ := verCells HRB2.out
      have HSM := hid (sameVer_any (zeroAt WB) (zeroAt WB) (by decide))
      rw [show sameVerB zeroVer zeroVer = true from sameVerB_iff.2 rfl] at HSM
      clear hub
      go_wp2_with fail
      refine (lawNum_any _ _ (by omega)).mono ?_
      rintro e W ⟨rfl, hww⟩
      obtain rfl := hww.symm
      go_wp2_with fail
      refine HSM.out.mono ?_
      rintro e WC ⟨rfl, huc⟩
      have HUC := hid (HUB.out.trans huc (fun _ _ e => e))
      clear huc
      go_wp2
      go_ret
      exact ⟨rfl, HUC.out⟩
    | some y =>
      rw [hdc] at hres
      obtain ⟨v9, rfl, hown⟩ := hres
      have HAT := hid hown.at
      have HOK := hid (decodeA_ok hdc)
      have HEN := hid (decodeA_enc hdc)
      obtain ⟨t1, e1, t2, e2, rfl, -, -⟩ := hown.at
      obtain ⟨k1, hk1⟩ : ∃ m, m = y.state.length := ⟨_, rfl⟩
      obtain ⟨k2, hk2⟩ : ∃ m, m = y.runs.length := ⟨_, rfl⟩
      rw [← hk1, ← hk2] at HAT ⊢
      clear hdc hown hk1 hk2
      go_upto_region 9 with fail
      have hua := (Upd.refl (fun _ => False) W9).alloc (.cells #[.int .i64 y.gen, .int .i64 y.flushed, .int .i64 y.next, .int .i64 y.low, .int .i64 y.clock, .slice t1 k1 e1, .slice t2 k2 e2] 25)
      have HUA := hid (HU9.out.trans hua (fun _ _ e => e))
      have HRB := hid (heap_alloc_new W9 (.cells #[.int .i64 y.gen, .int .i64 y.flushed, .int .i64 y.next, .int .i64 y.low, .int .i64 y.clock, .slice t1 k1 e1, .slice t2 k2 e2] 25))
      have HENC := hid (encode_any (HT.out.keep HUA.out) (HAT.out.keep hua) HOK.out)
      rw [HEN.out] at HENC
      obtain ⟨p9, hp9⟩ : ∃ p, p = W9.heap.size := ⟨_, rfl⟩
      rw [← hp9] at HRB ⊢
      generalize W9.alloc (.cells #[.int .i64 y.gen, .int .i64 y.flushed, .int .i64 y.next, .int .i64 y.low, .int .i64 y.clock, .slice t1 k1 e1, .slice t2 k2 e2] 25) = WA at HUA HRB HENC ⊢
      obtain ⟨⟨y0, y1, y2, y3, y4, y5, y6⟩, -, hyl⟩ := verCells HRB.out
      clear hua hp9
      go_wp2_with fail
      refine (lawNum_any _ _ (by omega)).mono ?_
      rintro e W ⟨rfl, hww⟩
      obtain rfl := hww.symm
      go_wp2_with fail
      refine HENC.out.mono ?_
      rintro e WB ⟨v11, rfl, hn11⟩
      obtain ⟨q1, q2, e11, -, -⟩ := hn11.shape
      rw [← HN.out] at e11
      subst e11
      have HUB := hid (HUA.out.trans hn11.upd (fun _ _ e => e))
      have HD11 := hid hn11.data
      clear hn11 y0 y1 y2 y3 y4 y5 y6 hyl
      go_wp2_with fail
      refine (started_any (HT.out.keep HUB.out)).mono ?_
      rintro e WC ⟨rfl, huc⟩
      have HUC := hid (HUB.out.trans huc (fun _ _ e => e))
      have HSM := hid (lawSame_any (HD11.out.upd huc (fun _ _ e => e)).bat (by rw [HN.out] at HB; exact HB.out.keep HUC.out))
      rw [decide_eq_true rfl, ← HN.out] at HSM
      clear huc
      go_wp2_with fail
      refine (lawNum_any _ _ (by omega)).mono ?_
      rintro e W ⟨rfl, hww⟩
      obtain rfl := hww.symm
      go_wp2_with fail
      refine HSM.out.mono ?_
      rintro e W ⟨rfl, hww⟩
      obtain rfl := hww.symm
      go_wp2
      go_ret
      exact ⟨rfl, HUC.out⟩
  · have hokf : okA x = false := by simpa using hok
    have HEN := hid (encode_bad (HV.out.keep HU1.out) HLK.out hokf)
    have HCK := hid (show checkA x = 101 from by unfold checkA; rw [if_neg hok])
    clear hok hokf
    go_wp2_with fail
    refine HEN.out.mono ?_
    rintro e W2 ⟨rfl, hu2⟩
    have HU2 := hid (HU1.out.trans hu2 (fun _ _ e => e))
    have HRO2 := hid (hu2.get HROW.out (fun e => e))
    have HCH := hid (refCheck10_any ((HV.out.keep HU1.out).keep hu2) HLK.out)
    rw [HCK.out] at HCH
    clear hu2 z0 z1 z2 z3 z4 z5 z6 hzl HEN
    obtain ⟨⟨z0, z1, z2, z3, z4, z5, z6⟩, -, hzl⟩ := verCells HRO2.out
    go_wp2_with fail
    refine HCH.out.mono ?_
    rintro e W8 ⟨rfl, hu8⟩
    have HU8 := hid (HU2.out.trans hu8 (fun _ _ e => e))
    clear hu8 z0 z1 z2 z3 z4 z5 z6 hzl HCH
    go_wp2_with fail
    refine (lawNum_any _ _ (by omega)).mono ?_
    rintro e W ⟨rfl, hww⟩
    obtain rfl := hww.symm
    go_upto_region 8 with fail
    have HDB := hid (decode_any (HT.out.keep HU8.out) (by rw [HN.out] at HB; exact HB.out.keep HU8.out) hl)
    rw [← HN.out] at HDB
    go_wp2_with fail
    refine HDB.out.mono ?_
    rintro e W9 ⟨hres, hu9⟩
    have HU9 := hid (HU8.out.trans hu9 (fun _ _ e => e))
    clear HDB hu9
    cases hdc : decodeA b with
    | none =>
      rw [hdc] at hres
      obtain rfl := hres
      clear hdc
      go_upto_region 9 with fail
      have hua := (Upd.refl (fun _ => False) W9).alloc (.cells (verC 0 0 0 0 0 (.slice none 0 0) (.slice none 0 0)) 25)
      have HUA := hid (HU9.out.trans hua (fun _ _ e => e))
      have HRB := hid (heap_alloc_new W9 (.cells (verC 0 0 0 0 0 (.slice none 0 0) (.slice none 0 0)) 25))
      obtain ⟨p9, hp9⟩ : ∃ p, p = W9.heap.size := ⟨_, rfl⟩
      rw [← hp9] at HRB ⊢
      generalize W9.alloc (.cells #[.int .i64 0, .int .i64 0, .int .i64 0, .int .i64 0, .int .i64 0, .slice none 0 0, .slice none 0 0] 25) = WA at HUA HRB ⊢
      clear hua hp9
      go_wp2_with fail
      refine (lawNum_any _ _ (by omega)).mono ?_
      rintro e W ⟨rfl, hww⟩
      obtain rfl := hww.symm
      go_wp2_with fail
      refine (started_any (HT.out.keep HUA.out)).mono ?_
      rintro e WB ⟨rfl, hub⟩
      have HUB := hid (HUA.out.trans hub (fun _ _ e => e))
      have HRB2 := hid (hub.get HRB.out (fun e => e))
      obtain ⟨⟨y0, y1, y2, y3, y4, y5, y6⟩, -, hyl⟩ := verCells HRB2.out
      have HSM := hid (sameVer_any (zeroAt WB) (zeroAt WB) (by decide))
      rw [show sameVerB zeroVer zeroVer = true from sameVerB_iff.2 rfl] at HSM
      clear hub
      go_wp2_with fail
      refine (lawNum_any _ _ (by omega)).mono ?_
      rintro e W ⟨rfl, hww⟩
      obtain rfl := hww.symm
      go_wp2_with fail
      refine HSM.out.mono ?_
      rintro e WC ⟨rfl, huc⟩
      have HUC := hid (HUB.out.trans huc (fun _ _ e => e))
      clear huc
      go_wp2
      go_ret
      exact ⟨rfl, HUC.out⟩
    | some y =>
      rw [hdc] at hres
      obtain ⟨v9, rfl, hown⟩ := hres
      have HAT := hid hown.at
      have HOK := hid (decodeA_ok hdc)
      have HEN := hid (decodeA_enc hdc)
      obtain ⟨t1, e1, t2, e2, rfl, -, -⟩ := hown.at
      obtain ⟨k1, hk1⟩ : ∃ m, m = y.state.length := ⟨_, rfl⟩
      obtain ⟨k2, hk2⟩ : ∃ m, m = y.runs.length := ⟨_, rfl⟩
      rw [← hk1, ← hk2] at HAT ⊢
      clear hdc hown hk1 hk2
      go_upto_region 9 with fail
      have hua := (Upd.refl (fun _ => False) W9).alloc (.cells #[.int .i64 y.gen, .int .i64 y.flushed, .int .i64 y.next, .int .i64 y.low, .int .i64 y.clock, .slice t1 k1 e1, .slice t2 k2 e2] 25)
      have HUA := hid (HU9.out.trans hua (fun _ _ e => e))
      have HRB := hid (heap_alloc_new W9 (.cells #[.int .i64 y.gen, .int .i64 y.flushed, .int .i64 y.next, .int .i64 y.low, .int .i64 y.clock, .slice t1 k1 e1, .slice t2 k2 e2] 25))
      have HENC := hid (encode_any (HT.out.keep HUA.out) (HAT.out.keep hua) HOK.out)
      rw [HEN.out] at HENC
      obtain ⟨p9, hp9⟩ : ∃ p, p = W9.heap.size := ⟨_, rfl⟩
      rw [← hp9] at HRB ⊢
      generalize W9.alloc (.cells #[.int .i64 y.gen, .int .i64 y.flushed, .int .i64 y.next, .int .i64 y.low, .int .i64 y.clock, .slice t1 k1 e1, .slice t2 k2 e2] 25) = WA at HUA HRB HENC ⊢
      obtain ⟨⟨y0, y1, y2, y3, y4, y5, y6⟩, -, hyl⟩ := verCells HRB.out
      clear hua hp9
      go_wp2_with fail
      refine (lawNum_any _ _ (by omega)).mono ?_
      rintro e W ⟨rfl, hww⟩
      obtain rfl := hww.symm
      go_wp2_with fail
      refine HENC.out.mono ?_
      rintro e WB ⟨v11, rfl, hn11⟩
      obtain ⟨q1, q2, e11, -, -⟩ := hn11.shape
      rw [← HN.out] at e11
      subst e11
      have HUB := hid (HUA.out.trans hn11.upd (fun _ _ e => e))
      have HD11 := hid hn11.data
      clear hn11 y0 y1 y2 y3 y4 y5 y6 hyl
      go_wp2_with fail
      refine (started_any (HT.out.keep HUB.out)).mono ?_
      rintro e WC ⟨rfl, huc⟩
      have HUC := hid (HUB.out.trans huc (fun _ _ e => e))
      have HSM := hid (lawSame_any (HD11.out.upd huc (fun _ _ e => e)).bat (by rw [HN.out] at HB; exact HB.out.keep HUC.out))
      rw [decide_eq_true rfl, ← HN.out] at HSM
      clear huc
      go_wp2_with fail
      refine (lawNum_any _ _ (by omega)).mono ?_
      rintro e W ⟨rfl, hww⟩
      obtain rfl := hww.symm
      go_wp2_with fail
      refine HSM.out.mono ?_
      rintro e W ⟨rfl, hww⟩
      obtain rfl := hww.symm
      go_wp2
      go_ret
      exact ⟨rfl, HUC.out⟩

end Go.Proofs.YthklehpkfndohaaDoor
