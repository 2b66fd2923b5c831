/-
  The walk of DiskStops.
-/
import Derived.Test.YtohpgmeflmppaaaLawG
import Derived.Deep.DeepCutAuto
namespace Go.Proofs.Ytohpgmeflmppaaa
set_option linter.unusedVariables false
set_option linter.unusedSimpArgs false
set_option linter.unnecessarySimpa false
set_option linter.unusedSectionVars false
open Go Go.RowKit

set_option maxRecDepth 100000 in
set_option maxHeartbeats 4000000 in
theorem stops_walk {dv : Value} {dids : List DidA} {n : Int} {w : World} (hd : DidsAt w dv dids) :
    Calls Try.prog 3 #[dv, .int .i64 n] w fun e w' => e = .returned (.bool true) ∧ Below w.heap.size w w' := by
  have HD := hid hd
  obtain ⟨ao, cap, rfl, hl1, hl2, hcells⟩ := hd.shape
  have HCE := hid hcells
  obtain ⟨N, hN⟩ : ∃ N : Int, N = if n < 1 ∨ 200 < n then 3 else n := ⟨_, rfl⟩
  have hN1 : 1 ≤ N ∧ N ≤ 200 := by subst hN; split <;> omega
  clear hd hcells
  go_enter Try.func3, Try.ntmps3
  go_upto_region 1 with fail
  go_cut [22] (fun t22 wx => t22 = .bool (decide (n < 1 ∨ 200 < n)) ∧ wx = w)
  case first =>
    by_cases h1 : n < 1
    · go_wp2
      go_meet
      case rel => exact ⟨by simp [h1], rfl⟩
    · by_cases h2 : 200 < n
      · go_wp2
        go_meet
        case rel => exact ⟨by simp [h2], rfl⟩
      · go_wp2
        go_meet
        case rel => exact ⟨by simp [h1, h2], rfl⟩
  case rest =>
  obtain ⟨rfl, hwc⟩ := hcut
  obtain rfl := hwc.symm
  go_upto_if 22 with fail
  go_cut [1] (fun t1 wx => t1 = .int .i64 N ∧ wx = w)
  case first =>
    by_cases h1 : n < 1 ∨ 200 < n
    · obtain rfl : N = 3 := by subst hN; rw [if_pos h1]
      clear hN
      have hb : decide (n < 1 ∨ 200 < n) = true := by simpa using h1
      go_wp2
      go_meet
      case rel => exact ⟨rfl, rfl⟩
    · obtain rfl : N = n := by subst hN; rw [if_neg h1]
      clear hN
      have hb : decide (N < 1 ∨ 200 < N) = false := by simpa using h1
      go_wp2
      go_meet
      case rel => exact ⟨rfl, rfl⟩
  case rest =>
  obtain ⟨rfl, hwc⟩ := hcut
  obtain rfl := hwc.symm
  clear hN
  go_wp2_with fail
  refine (made_any w 4096 (by decide) (by decide)).mono ?_
  rintro e w1 ⟨sd0, rfl, hfr⟩
  obtain ⟨hdi, hdcap, hdrecs, hddn, hdarm, hdlow, hdupd⟩ := hfr
  have OND := hid (show On w w1 sd0.p sd0 from ⟨hdi, rfl, hdlow, hdupd⟩)
  have F1 := hid hdcap; have F2 := hid hdrecs; have F3 := hid hddn; have F4 := hid hdarm
  clear hdi hdcap hdrecs hddn hdarm hdlow hdupd
  go_wp2_with fail
  refine (made_any w1 4096 (by decide) (by decide)).mono ?_
  rintro e w2 ⟨sc0, rfl, hfr⟩
  obtain ⟨hci, hccap, hcrecs, hcdn, hcarm, hclow, hcupd⟩ := hfr
  have TW0 := hid (show Two w w2 sd0.p sc0.p sd0 sc0 from ⟨OND.out.more hcupd, ⟨hci, rfl, fun k hk => Nat.le_trans OND.out.upd.size (hclow k hk), OND.out.upd.trans hcupd (fun _ _ h => h)⟩, fun k hk hc => by have := OND.out.ins.lt k hk; have := hclow k hc; omega⟩)
  have G1 := hid hccap; have G2 := hid hcrecs; have G3 := hid hcdn; have G4 := hid hcarm
  obtain ⟨pd, hpd⟩ : ∃ pd, pd = sd0.p := ⟨_, rfl⟩
  obtain ⟨pc, hpc⟩ : ∃ pc, pc = sc0.p := ⟨_, rfl⟩
  have harm := arm_any TW0.out.od.ins N (by omega)
  rw [F3.out, ← hpd] at harm
  rw [← hpd, ← hpc] at TW0
  have HARM := hid harm
  rw [← hpd, ← hpc]
  clear hci hccap hcrecs hcdn hcarm hclow hcupd harm hpd hpc
  go_wp2_with fail
  refine HARM.out.mono ?_
  rintro e w3 ⟨rfl, hst⟩
  have TW1 := hid (TW0.out.stepd hst)
  have PR1 := hid (show Pair _ sc0 ∧ _ from ⟨(⟨by simp [DS.abs, F2.out, G2.out], by simp [DS.abs, F1.out, G1.out], by simp, G3.out, G4.out⟩ : Pair (if false = true then sd0 else { sd0 with p := pd, down := false, armed := max N 0 }) sc0), (show (max N 0 : Int) = N - (0 : Nat) by omega)⟩)
  clear hst
  go_wp2
  go_loopw [6, 7, 8] (fun cv kk i wr => cv = .pointer (some ⟨pc, 0, none⟩) ∧ ∃ k : Nat, k ≤ dids.length ∧ i = .int .i64 k ∧ ∃ m : Nat, kk = .int .i64 m ∧ (m : Int) < N ∧ ∃ sd sc, Two w wr pd pc sd sc ∧ Pair sd sc ∧ sd.armed = N - m) (fun _ _ i _ => dids.length - (intOf i).toNat)
  case atStart => exact ⟨rfl, 0, Nat.zero_le _, rfl, 0, rfl, by omega, _, _, TW1.out, PR1.out.1, PR1.out.2⟩
  case round =>
    obtain ⟨rfl, k, hk, rfl, m, rfl, hm, sd, sc, htw, hpr, harmd⟩ := hrel
    have TW := hid htw; have PR := hid hpr; have HA := hid harmd
    clear htw hpr harmd
    have hdw := down_any TW.out.od.ins
    rw [PR.out.dd, TW.out.od.p] at hdw
    have HDW := hid hdw
    clear hdw
    by_cases hlt : k < dids.length
    · obtain ⟨b, o, rfl, hb, c0, c1, c2, c3⟩ := HCE.out k hlt
      have HOK := hid (HD.out.ok TW.out.od (List.getElem_mem hlt))
      obtain ⟨⟨ko, kc, hbv, -⟩, -⟩ := HOK.out
      rw [hbv] at c3
      have HC0 := hid c0; have HC1 := hid c1; have HC2 := hid c2; have HC3 := hid c3
      have HB := hid hb; have HBV := hid hbv
      obtain ⟨x, hx⟩ : ∃ x, x = dids[k] := ⟨_, rfl⟩
      have HXM := hid (show x ∈ dids from hx ▸ List.getElem_mem hlt)
      rw [← hx] at HC0 HC1 HC2 HC3 HBV HOK
      clear c0 c1 c2 c3 hbv hx
      have CW : ∀ W, Upd (fun _ => False) w W → b < W.heap.size ∧ W.cell? ⟨b, o + k * 4, none⟩ = some (.int .i64 x.kind) ∧ W.cell? ⟨b, o + k * 4 + 1, none⟩ = some (.int .i64 x.file) ∧ W.cell? ⟨b, o + k * 4 + 2, none⟩ = some (.int .i64 x.to) ∧ W.cell? ⟨b, o + k * 4 + 3, none⟩ = some (.slice ko x.b.length kc) := fun W hW =>
        ⟨Nat.lt_of_lt_of_le hb hW.size, by rw [World.cell?_of_block (w := w) (hW.block b hb (fun h => h)), HC0.out], by rw [World.cell?_of_block (w := w) (hW.block b hb (fun h => h)), HC1.out], by rw [World.cell?_of_block (w := w) (hW.block b hb (fun h => h)), HC2.out], by rw [World.cell?_of_block (w := w) (hW.block b hb (fun h => h)), HC3.out]⟩
      have CW := hid CW
      obtain ⟨hbr, r0, r1, r2, r3⟩ := CW.out wr TW.out.od.upd
      clear hb
      go_wp2_with fail
      refine HDW.out.mono ?_
      rintro e w4 ⟨rfl, hww⟩
      obtain rfl := hww.symm
      go_wp2_with fail
      have hact := act4_any TW.out.od.ins HOK.out
      rw [TW.out.od.p] at hact
      unfold DidA.cells at hact
      rw [HBV.out] at hact
      refine hact.mono ?_
      rintro e w5 ⟨rfl, sd2, hst, habs⟩
      have TW2 := hid (TW.out.stepd hst)
      have HABS := hid habs
      obtain ⟨hbr5, s0, s1, s2, s3⟩ := CW.out w5 TW2.out.od.upd
      obtain ⟨ed, hed⟩ : ∃ ed, ed = (didA sd x).1 := ⟨_, rfl⟩
      rw [← hed]
      have HED := hid hed
      clear hact hst habs r0 r1 r2 r3 hbr hed
      by_cases hk1 : x.kind < 1
      · have HQ := didA_other (s := sd) (x := x) (.inl hk1)
        rw [HQ] at HABS
        have HQ2 := hid HABS.out
        clear HABS HQ
        go_wp2
        go_roundw
        case rel => exact ⟨rfl, k + 1, by omega, by go_num, m, rfl, hm, sd2, sc, TW2.out, ⟨by rw [HQ2.out]; exact PR.out.files, by rw [HQ2.out]; exact PR.out.cap, (congrArg DiskA.down HQ2.out).trans PR.out.dd, PR.out.dc, PR.out.ac⟩, (congrArg DiskA.armed HQ2.out).trans HA.out⟩
        case measure => simp [intOf]; omega
      by_cases hk5 : 5 < x.kind
      · have HQ := didA_other (s := sd) (x := x) (.inr hk5)
        rw [HQ] at HABS
        have HQ2 := hid HABS.out
        clear HABS HQ
        go_wp2
        go_roundw
        case rel => exact ⟨rfl, k + 1, by omega, by go_num, m, rfl, hm, sd2, sc, TW2.out, ⟨by rw [HQ2.out]; exact PR.out.files, by rw [HQ2.out]; exact PR.out.cap, (congrArg DiskA.down HQ2.out).trans PR.out.dd, PR.out.dc, PR.out.ac⟩, (congrArg DiskA.armed HQ2.out).trans HA.out⟩
        case measure => simp [intOf]; omega
      have hfi := files_any TW2.out.oc.ins
      rw [TW2.out.oc.p] at hfi
      have HFI := hid hfi
      clear hfi
      go_wp2_with fail
      refine HFI.out.mono ?_
      rintro e w6 ⟨v1, l1, rfl, hf1, ha1, hu1⟩
      have TW3 := hid (TW2.out.more hu1)
      obtain ⟨hsm1, hle1⟩ := files_small TW2.out.oc.ins ha1
      have HCO := hid (copied_any hf1 hsm1 hle1)
      have HAL1 := hid ha1
      have HU1 := hid hu1
      clear hf1 ha1 hu1 hsm1 hle1
      go_wp2_with fail
      refine HCO.out.mono ?_
      rintro e w7 ⟨vb, lb, rfl, hfb, hab, hub⟩
      have TW4 := hid (TW3.out.more hub)
      obtain ⟨ab, cb, rfl, -, -, -⟩ := hfb.shape
      have HFB := hid hfb; have HAB := hid hab
      obtain ⟨hbr7, q0, q1, q2, q3⟩ := CW.out w7 TW4.out.od.upd
      have HOK2 := hid (HD.out.ok TW4.out.oc HXM.out)
      clear hfb hab hub s0 s1 s2 s3 hbr5
      go_wp2_with fail
      have hact := act4_any TW4.out.oc.ins HOK2.out
      rw [TW4.out.oc.p] at hact
      unfold DidA.cells at hact
      rw [HBV.out] at hact
      refine hact.mono ?_
      rintro e w8 ⟨rfl, sc2, hst, habs⟩
      have TW5 := hid (TW4.out.stepc hst)
      have hfb2 := HFB.out.keep hst.upd (fun k hk hm => by have := HFB.out.own_low hk; have := TW3.out.oc.ins.lt k hm; omega)
      have HFB2 := hid hfb2
      have hps := PR.out.step (x := x) (by omega) (by omega) (by rw [HA.out]; omega) HABS.out habs
      rw [← HED.out] at hps
      obtain ⟨ec, hec⟩ : ∃ ec, ec = (didA sc x).1 := ⟨_, rfl⟩
      rw [← hec] at hps
      rw [← hec]
      obtain ⟨hbr8, r0, r1, r2, r3⟩ := CW.out w8 TW5.out.od.upd
      clear hact hst hfb2 hec q0 q1 q2 q3 hbr7 HABS habs HED
      rcases hps with ⟨h1, h2, h3, h4⟩ | ⟨h1, h2, h3, h4, h5⟩ | ⟨h1, h2, h3, h4, h5⟩
      · have hb1 : (ec != (0 : Int)) = true := by simpa using h1
        have hb2 : (ec != ec) = false := by simp
        subst h2
        have PR2 := hid h3
        have hdw := down_any TW5.out.od.ins
        rw [h3.dd, TW5.out.od.p] at hdw
        have HDW2 := hid hdw
        have HA2 := hid h4
        clear h3 hdw h4
        go_wp2_with (first | (go_at_call 13; refine (num_any _ _).mono ?_; rintro e w' ⟨rfl, hww⟩; obtain rfl := hww.symm) | (go_at_call 12; refine HDW2.out.mono ?_; rintro e w' ⟨rfl, hww⟩; obtain rfl := hww.symm))
        go_roundw
        case rel => exact ⟨rfl, k + 1, by omega, by go_num, m, rfl, hm, sd2, sc2, TW5.out, PR2.out, HA2.out.trans HA.out⟩
        case measure => simp [intOf]; omega
      · subst h1 h3
        have PR2 := hid h4
        have hdw := down_any TW5.out.od.ins
        rw [h4.dd, TW5.out.od.p] at hdw
        have HDW2 := hid hdw
        have HA2 := hid h5
        have hm1 : (m : Int) + 1 < N := by have := HA.out; omega
        have hm2 : ((m + 1 : Nat) : Int) < N := by omega
        clear h4 h5 hdw
        go_wp2_with (first | (go_at_call 13; refine (num_any _ _).mono ?_; rintro e w' ⟨rfl, hww⟩; obtain rfl := hww.symm) | (go_at_call 12; refine HDW2.out.mono ?_; rintro e w' ⟨rfl, hww⟩; obtain rfl := hww.symm))
        go_roundw
        case rel => exact ⟨rfl, k + 1, by omega, by go_num, m + 1, by go_num, hm2, sd2, sc2, TW5.out, PR2.out, by rw [HA2.out, HA.out]; omega⟩
        case measure => simp [intOf]; omega
      · subst h1 h3
        obtain rfl : N = m + 1 := by have := HA.out; omega
        have hlt9 : ¬ (m : Int) + 1 < (m : Int) + 1 := by omega
        have HD2 := hid h4; have HF5 := hid h5
        have hdw := down_any TW5.out.od.ins
        rw [h4, TW5.out.od.p] at hdw
        have hfi := files_any TW5.out.oc.ins
        rw [TW5.out.oc.p] at hfi
        have HFI := hid hfi
        clear h4 h5 hdw hfi
        go_upto_if 125 with (go_at_call 13; refine (num_any _ _).mono ?_; rintro e w' ⟨rfl, hww⟩; obtain rfl := hww.symm)
        go_cut [12] (fun wv wx => ∃ bw lw, FilesAt wx bw wv lw ∧ lw.map FV.abs = fileList sd2 ∧ Upd (fun _ => False) w8 wx)
        case first =>
          by_cases hk2 : x.kind = 2
          · have hb2 : (x.kind == (2 : Int)) = true := by simpa using hk2
            have HK2 := hid hk2
            clear hk2
            go_wp2_with fail
            refine HFI.out.mono ?_
            rintro e w9 ⟨v2, l2, rfl, hf2, ha2, hu2⟩
            have HF2 := hid hf2; have HA2 := hid ha2; have HU2 := hid hu2
            clear hf2 ha2 hu2
            go_wp2
            go_meet
            case rel =>
              refine ⟨_, _, HF2.out, ?_, HU2.out⟩
              rw [HA2.out]
              refine fileList_files ?_
              rw [HF5.out, if_pos HK2.out]
          · have hb2 : (x.kind == (2 : Int)) = false := by simpa using hk2
            have HK2 := hid hk2
            clear hk2
            go_wp2
            go_meet
            case rel =>
              refine ⟨_, _, HFB2.out, ?_, Upd.refl _ _⟩
              rw [HAB.out, HAL1.out]
              refine fileList_files ?_
              rw [HF5.out, if_neg HK2.out, PR.out.files]
        case rest =>
        obtain ⟨bw, lw, hfw, haw, huw⟩ := hcut
        have TW6 := hid (TW5.out.more huw)
        obtain ⟨aw, cw, rfl, -, -, -⟩ := hfw.shape
        have HFW := hid hfw; have HAW := hid haw
        have hdw := down_any TW6.out.od.ins
        rw [HD2.out, TW6.out.od.p] at hdw
        have HDW6 := hid hdw
        have hfi := files_any TW6.out.od.ins
        rw [TW6.out.od.p] at hfi
        have HFI6 := hid hfi
        clear hfw haw huw hdw hfi r0 r1 r2 r3 hbr8
        go_wp2_with (first | (go_at_call 13; refine (num_any _ _).mono ?_; rintro e w' ⟨rfl, hww⟩; obtain rfl := hww.symm) | (go_at_call 12; refine HDW6.out.mono ?_; rintro e w' ⟨rfl, hww⟩; obtain rfl := hww.symm))
        refine HFI6.out.mono ?_
        rintro e w9 ⟨v3, l3, rfl, hf3, ha3, hu3⟩
        have TW7 := hid (TW6.out.more hu3)
        have hsf := sameFiles_any hf3 (HFW.out.keep hu3 (fun _ _ h => h))
        have HSF := hid hsf
        have HEQ := hid (show l3.map FV.abs = lw.map FV.abs by rw [ha3, HAW.out])
        clear hf3 ha3 hu3 hsf
        go_wp2_with fail
        refine HSF.out.mono ?_
        rintro e w10 ⟨b3, rfl, hbi, hu4⟩
        obtain rfl : b3 = true := hbi.2 HEQ.out
        have TW8 := hid (TW7.out.more hu4)
        have hfi := files_any TW8.out.od.ins
        rw [TW8.out.od.p] at hfi
        have HFI8 := hid hfi
        clear hbi hu4 hfi
        go_wp2_with fail
        refine HFI8.out.mono ?_
        rintro e w11 ⟨v5, l5, rfl, hf5, ha5, hu5⟩
        have ON1 := hid (TW8.out.od.more hu5)
        obtain ⟨hsm1, hle1⟩ := files_small TW8.out.od.ins ha5
        have HCO2 := hid (copied_any hf5 hsm1 hle1)
        have HA5 := hid ha5
        clear hf5 ha5 hu5 hsm1 hle1
        go_wp2_with fail
        refine HCO2.out.mono ?_
        rintro e w12 ⟨vl, ll, rfl, hfl, hal, hul⟩
        have ON2 := hid (ON1.out.more hul)
        obtain ⟨al, cl, rfl, -, -, -⟩ := hfl.shape
        have HFL := hid hfl
        have HAL := hid (hal.trans HA5.out)
        have HAP := hid (show ∀ k, ownFiles (.slice al ll.length cl) ll k → k ∉ sd2.blocks from fun k hk hm => by have := hfl.own_low hk; have := ON1.out.ins.lt k hm; omega)
        clear hfl hal hul
        go_wp2
        go_loopw [14] (fun j wr => ∃ k2 : Nat, k2 ≤ dids.length ∧ j = .int .i64 k2 ∧ ∃ s, On w wr pd s ∧ s.down = true ∧ s.abs.files = sd2.abs.files ∧ FilesAt wr w11.heap.size (.slice al ll.length cl) ll ∧ (∀ k, ownFiles (.slice al ll.length cl) ll k → k ∉ s.blocks)) (fun j _ => dids.length - (intOf j).toNat)
        case atStart => exact ⟨k + 1, by omega, by go_num, sd2, ON2.out, HD2.out, rfl, HFL.out, HAP.out⟩
        case round =>
          obtain ⟨k2, hk2, rfl, s, hon, hsd, hsf, hfl, hap⟩ := hrel
          have ON := hid hon; have SD := hid hsd; have SF := hid hsf; have FL := hid hfl; have AP := hid hap
          clear hon hsd hsf hfl hap
          by_cases hlt2 : k2 < dids.length
          · obtain ⟨b2, o2, e2, hb, c0, c1, c2, c3⟩ := HCE.out k2 hlt2
            cases e2
            have HOK3 := hid (HD.out.ok ON.out (List.getElem_mem hlt2))
            obtain ⟨⟨ko2, kc2, hbv, -⟩, -⟩ := HOK3.out
            have u0 := (World.cell?_of_block (a := ⟨b, o + k2 * 4, none⟩) (ON.out.upd.block b hb (fun h => h))).trans c0
            have u1 := (World.cell?_of_block (a := ⟨b, o + k2 * 4 + 1, none⟩) (ON.out.upd.block b hb (fun h => h))).trans c1
            have u2 := (World.cell?_of_block (a := ⟨b, o + k2 * 4 + 2, none⟩) (ON.out.upd.block b hb (fun h => h))).trans c2
            have u3' := (World.cell?_of_block (a := ⟨b, o + k2 * 4 + 3, none⟩) (ON.out.upd.block b hb (fun h => h))).trans c3
            rw [hbv] at u3'
            have HBV2 := hid hbv
            obtain ⟨y, hy⟩ : ∃ y, y = dids[k2] := ⟨_, rfl⟩
            rw [← hy] at u0 u1 u2 u3' HBV2 HOK3
            clear c0 c1 c2 c3 hbv hy
            by_cases hy1 : y.kind < 1
            · have hy1' : ¬ 1 ≤ y.kind := by omega
              go_wp2
              go_roundw
              case rel => exact ⟨k2 + 1, by omega, by go_num, s, ON.out, SD.out, SF.out, FL.out, AP.out⟩
              case measure => simp [intOf]; omega
            by_cases hy5 : 5 < y.kind
            · have hy1' : 1 ≤ y.kind := by omega
              have hy5' : ¬ y.kind ≤ 5 := by omega
              go_wp2
              go_roundw
              case rel => exact ⟨k2 + 1, by omega, by go_num, s, ON.out, SD.out, SF.out, FL.out, AP.out⟩
              case measure => simp [intOf]; omega
            have hy1' : 1 ≤ y.kind := by omega
            have hy5' : y.kind ≤ 5 := by omega
            go_wp2_with fail
            have hact := act4_any ON.out.ins HOK3.out
            rw [ON.out.p, didA_down SD.out hy1' hy5'] at hact
            unfold DidA.cells at hact
            rw [HBV2.out] at hact
            refine hact.mono ?_
            rintro e w13 ⟨rfl, s2, hst, habs⟩
            have ON3 := hid (ON.out.step hst)
            have SD3 := hid ((congrArg DiskA.down habs).trans SD.out)
            have SF3 := hid ((congrArg DiskA.files habs).trans SF.out)
            have FL3 := hid (FL.out.keep hst.upd AP.out)
            have AP3 := hid (show ∀ k, ownFiles (.slice al ll.length cl) ll k → k ∉ s2.blocks from fun k hk hm => (hst.foot k hm).elim (AP.out k hk) (fun h => by have := FL.out.own_lt hk; omega))
            clear hact hst habs
            go_wp2_with (go_at_call 13; refine (num_any _ _).mono ?_; rintro e w' ⟨rfl, hww⟩; obtain rfl := hww.symm)
            go_roundw
            case rel => exact ⟨k2 + 1, by omega, by go_num, s2, ON3.out, SD3.out, SF3.out, FL3.out, AP3.out⟩
            case measure => simp [intOf]; omega
          · go_wp2_with fail
            refine (name_any 0 _).mono ?_
            rintro e w13 ⟨rfl, hu6⟩
            have ON3 := hid (ON.out.more hu6)
            have FL3 := hid (FL.out.keep hu6 (fun _ _ h => h))
            have hrd := read_bad ON3.out.ins (fileName 0) 0 0 (by rw [SD.out]; simp [lookRes])
            rw [SD.out, ON3.out.p] at hrd
            have HRD := hid hrd
            have hfi := files_any ON3.out.ins
            rw [ON3.out.p] at hfi
            have HFI9 := hid hfi
            clear hu6 hrd hfi
            go_wp2_with fail
            refine HRD.out.mono ?_
            rintro e w' ⟨rfl, hww⟩
            obtain rfl := hww.symm
            go_wp2_with (go_at_call 13; refine (num_any _ _).mono ?_; rintro e w' ⟨rfl, hww⟩; obtain rfl := hww.symm)
            refine HFI9.out.mono ?_
            rintro e w14 ⟨v6, l6, rfl, hf6, ha6, hu6⟩
            have HSF2 := hid (sameFiles_any hf6 (FL3.out.keep hu6 (fun _ _ h => h)))
            have HEQ2 := hid (show l6.map FV.abs = ll.map FV.abs by rw [ha6, HAL.out]; exact fileList_files SF.out)
            have ON4 := hid (ON3.out.more hu6)
            clear hf6 ha6 hu6
            go_wp2_with fail
            refine HSF2.out.mono ?_
            rintro e w15 ⟨b4, rfl, hbi, hu7⟩
            obtain rfl : b4 = true := hbi.2 HEQ2.out
            go_wp2
            go_ret
            exact ⟨rfl, (ON4.out.more hu7).upd.below (Nat.le_refl _) (fun _ h => h.elim)⟩
    · obtain rfl : k = dids.length := by omega
      have hfi := files_any TW.out.od.ins
      rw [TW.out.od.p] at hfi
      have HFI := hid hfi
      clear hfi
      go_wp2_with fail
      refine HFI.out.mono ?_
      rintro e w4 ⟨v1, l1, rfl, hf1, ha1, hu1⟩
      have TW2 := hid (TW.out.more hu1)
      have HF1 := hid hf1
      have hfi := files_any TW2.out.oc.ins
      rw [TW2.out.oc.p] at hfi
      have HFI2 := hid hfi
      have HA1 := hid ha1
      clear hf1 ha1 hu1 hfi
      go_wp2_with fail
      refine HFI2.out.mono ?_
      rintro e w5 ⟨v2, l2, rfl, hf2, ha2, hu2⟩
      have TW3 := hid (TW2.out.more hu2)
      have hsf := sameFiles_any (HF1.out.upd hu2 (fun _ _ h => h)) hf2
      have HSF := hid hsf
      have heq : l1.map FV.abs = l2.map FV.abs := by rw [HA1.out, ha2]; exact fileList_files PR.out.files
      have HEQ := hid heq
      have hdw := down_any TW3.out.od.ins
      rw [PR.out.dd, TW3.out.od.p] at hdw
      clear hf2 ha2 hu2 hsf heq
      have HDW3 := hid hdw
      clear hdw
      go_wp2_with fail
      refine HSF.out.mono ?_
      rintro e w6 ⟨b, rfl, hbi, hu3⟩
      obtain rfl : b = true := hbi.2 HEQ.out
      have TW4 := hid (TW3.out.more hu3)
      have hdw := down_any TW4.out.od.ins
      rw [PR.out.dd, TW4.out.od.p] at hdw
      have HDW4 := hid hdw
      clear hbi hu3 hdw
      go_wp2_with (go_at_call 12; refine HDW4.out.mono ?_; rintro e w' ⟨rfl, hww⟩; obtain rfl := hww.symm)
      go_ret
      exact ⟨rfl, TW4.out.od.upd.below (Nat.le_refl _) (fun _ h => h.elim)⟩

end Go.Proofs.Ytohpgmeflmppaaa
