/-
  The walk of DiskTwins.
-/
import Derived.Test.YtohpgmeflmppaaaLawI
import Derived.Deep.RegionHeld3
namespace Go.Proofs.Ytohpgmeflmppaaa
set_option linter.unusedVariables false
set_option linter.unusedSimpArgs false
set_option linter.unnecessarySimpa false
set_option linter.unusedSectionVars false
open Go Go.RowKit

/-- What lies in a cell of the caller's at act number k. -/
def DidCells (ao : Option Addr) (dids : List DidA) (w0 : World) : Prop :=
  ∀ k (hk : k < dids.length), ∃ b o ko kc, ao = some ⟨b, o, none⟩ ∧ b < w0.heap.size ∧ dids[k].bv = .slice ko dids[k].b.length kc ∧ ∀ W, Upd (fun _ => False) w0 W → b < W.heap.size ∧
    W.cell? ⟨b, o + k * 4, none⟩ = some (.int .i64 dids[k].kind) ∧ W.cell? ⟨b, o + k * 4 + 1, none⟩ = some (.int .i64 dids[k].file) ∧ W.cell? ⟨b, o + k * 4 + 2, none⟩ = some (.int .i64 dids[k].to) ∧ W.cell? ⟨b, o + k * 4 + 3, none⟩ = some (.slice ko dids[k].b.length kc)

theorem DidsAt.cells {w : World} {ao : Option Addr} {n cap : Nat} {dids : List DidA} (h : DidsAt w (.slice ao n cap) dids) : DidCells ao dids w := by
  obtain ⟨ao', cap', e, -, -, hc⟩ := h.shape
  injection e with e _ _
  subst e
  intro k hk
  obtain ⟨b, o, e, hb, c0, c1, c2, c3⟩ := hc k hk
  obtain ⟨ko, kc, hbv, -, -⟩ := h.bytes dids[k] (List.getElem_mem hk)
  rw [hbv] at c3
  exact ⟨b, o, ko, kc, e, hb, hbv, fun W hW => ⟨Nat.lt_of_lt_of_le hb hW.size, (World.cell?_of_block (hW.block b hb (fun h => h))).trans c0, (World.cell?_of_block (hW.block b hb (fun h => h))).trans c1, (World.cell?_of_block (hW.block b hb (fun h => h))).trans c2, (World.cell?_of_block (hW.block b hb (fun h => h))).trans c3⟩⟩

/-- An act upon a disk made since w0. -/
theorem act_at {w0 W : World} {p : Nat} {s : DS} {dv : Value} {dids : List DidA} (hd : DidsAt w0 dv dids) (ho : On w0 W p s) {x : DidA} (hx : x ∈ dids) {ko : Option Addr} {kc : Nat} (hbv : x.bv = .slice ko x.b.length kc) :
    Calls Try.prog 14 #[.pointer (some ⟨p, 0, none⟩), .agg #[.int .i64 x.kind, .int .i64 x.file, .int .i64 x.to, .slice ko x.b.length kc]] W fun e w' => e = .returned (.int .i64 (didA s x).1) ∧ ∃ s2, Step W w' s s2 ∧ s2.abs = (didA s x).2 := by
  have h := act4_any ho.ins (hd.ok ho hx)
  unfold DidA.cells at h
  rw [hbv, ho.p] at h
  exact h

set_option maxRecDepth 100000 in
set_option maxHeartbeats 4000000 in
theorem twins_walk {v0 v1 v2 : Value} {d0 d1 d2 : List DidA} {w : World} (h0 : DidsAt w v0 d0) (h1 : DidsAt w v1 d1) (h2 : DidsAt w v2 d2) :
    Calls Try.prog 5 #[v0, v1, v2] w fun e w' => e = .returned (.bool true) ∧ Below w.heap.size w w' := by
  have H0 := hid h0; have H1 := hid h1; have H2 := hid h2
  obtain ⟨a0, c0, rfl, l0, m0, -⟩ := h0.shape
  obtain ⟨a1, c1, rfl, l1, m1, -⟩ := h1.shape
  obtain ⟨a2, c2, rfl, l2, m2, -⟩ := h2.shape
  have C0 := hid h0.cells; have C1 := hid h1.cells; have C2 := hid h2.cells
  clear h0 h1 h2
  go_enter Try.func5, Try.ntmps5
  go_wp2_with fail
  refine (made_any w 4096 (by decide) (by decide)).mono ?_
  rintro e w1 ⟨s0, rfl, hfr⟩
  obtain ⟨hdi, hdc, -, hddn, hdarm, hdlow, hdupd⟩ := hfr
  have ON0 := hid (show On w w1 s0.p s0 from ⟨hdi, rfl, hdlow, hdupd⟩)
  have F1 := hid hddn; have F2 := hid hdarm; have F3 := hid hdc
  obtain ⟨p, hp⟩ : ∃ p, p = s0.p := ⟨_, rfl⟩
  rw [← hp] at ON0
  rw [← hp]
  clear hdi hdc hddn hdarm hdlow hdupd hp
  go_wp2
  go_loopw [8] (fun i wr => ∃ k : Nat, k ≤ d0.length ∧ i = .int .i64 k ∧ ∃ s, On w wr p s ∧ s.down = false ∧ s.armed = 0 ∧ s.cap = 4096) (fun i _ => d0.length - (intOf i).toNat)
  case atStart => exact ⟨0, Nat.zero_le _, rfl, _, ON0.out, F1.out, F2.out, F3.out⟩
  case round =>
    obtain ⟨k, hk, rfl, s, hon, hdn, har, hcp⟩ := hrel
    have HON := hid hon; have HDN := hid hdn; have HAR := hid har; have HCP := hid hcp
    clear hon hdn har hcp
    by_cases hlt : k < d0.length
    · obtain ⟨b, o, ko, kc, rfl, -, hbv, hcw⟩ := C0.out k hlt
      obtain ⟨hbr, r0, r1, r2, r3⟩ := hcw wr HON.out.upd
      have HACT := hid (act_at H0.out HON.out (List.getElem_mem hlt) hbv)
      clear hbv hcw
      go_wp2_with fail
      refine HACT.out.mono ?_
      rintro e w3 ⟨rfl, s2, hst, habs⟩
      have ON2 := hid (HON.out.step hst)
      obtain ⟨g1, g2, g3⟩ := didA_calm HDN.out HAR.out habs
      have G := hid (And.intro g1 (And.intro g2 (g3.trans HCP.out)))
      clear hst habs g1 g2 g3
      go_wp2
      go_roundw
      case rel => exact ⟨k + 1, by omega, by go_num, _, ON2.out, G.out.1, G.out.2.1, G.out.2.2⟩
      case measure => simp [intOf]; omega
    · obtain rfl : k = d0.length := by omega
      clear hlt hk C0 H0
      have hca := capacity_any HON.out.ins
      rw [HON.out.p] at hca
      have HCA := hid hca
      have hfi := files_any HON.out.ins
      rw [HON.out.p] at hfi
      have HFI := hid hfi
      clear hca hfi
      go_wp2_with fail
      refine HCA.out.mono ?_
      rintro e w' ⟨rfl, hww⟩
      obtain rfl := hww.symm
      go_wp2_with fail
      refine HFI.out.mono ?_
      rintro e w3 ⟨v1, l1f, rfl, hf1, ha1, hu1⟩
      have ON1 := hid (HON.out.more hu1)
      have HLO := hid (load_any (cap := s.cap) hf1.toIn)
      have HLD := hid (load_told HON.out.ins ha1)
      have hfp := fileList_files_perm HON.out.ins
      have HFP := hid hfp
      clear hf1 ha1 hu1 hfp
      go_wp2_with fail
      refine HLO.out.mono ?_
      rintro e w4 ⟨hu4, hres⟩
      rw [HLD.out] at hres
      obtain ⟨st, rfl, hin, habs, hlow⟩ := hres
      obtain ⟨pt, hpt⟩ : ∃ pt, pt = st.p := ⟨_, rfl⟩
      have TW0 := hid (show Two w w4 p pt s st from ⟨ON1.out.more hu4, ⟨hin, hpt.symm, fun k hk => Nat.le_trans ON1.out.upd.size (hlow k hk), ON1.out.upd.trans hu4 (fun _ _ h => h)⟩, fun k hk hc => by have := ON1.out.ins.lt k hk; have := hlow k hc; omega⟩)
      have LK0 := hid (show Like s st from ⟨by rw [habs]; exact HFP.out.symm, by rw [habs]; simp [DS.abs], HDN.out, congrArg DiskA.down habs, HAR.out, congrArg DiskA.armed habs⟩)
      rw [← hpt]
      clear hu4 hin habs hlow hpt
      go_wp2_with (go_at_call 13; refine (num_any _ _).mono ?_; rintro e w' ⟨rfl, hww⟩; obtain rfl := hww.symm)
      go_loopw [11] (fun i wr => ∃ k : Nat, k ≤ d1.length ∧ i = .int .i64 k ∧ ∃ sd st, Two w wr p pt sd st ∧ Like sd st) (fun i _ => d1.length - (intOf i).toNat)
      case atStart => exact ⟨0, Nat.zero_le _, rfl, _, _, TW0.out, LK0.out⟩
      case round =>
        obtain ⟨k, hk, rfl, sd, st, htw, hlk⟩ := hrel
        have TW := hid htw; have LK := hid hlk
        clear htw hlk
        by_cases hlt : k < d1.length
        · obtain ⟨b, o, ko, kc, rfl, -, hbv, hcw⟩ := C1.out k hlt
          have CW := hid hcw; have HBV := hid hbv
          obtain ⟨hbr, r0, r1, r2, r3⟩ := hcw wr TW.out.od.upd
          obtain ⟨x, hx⟩ : ∃ x, x = d1[k] := ⟨_, rfl⟩
          have HXM := hid (show x ∈ d1 from hx ▸ List.getElem_mem hlt)
          rw [← hx] at r0 r1 r2 r3 CW HBV
          have TWD := hid (TW.out.more ((Upd.refl (fun _ => False) wr).drew))
          clear hbv hcw hx
          go_wp2_with fail
          go_region_held3 (fun W => W.cell? ⟨b, o + k * 4, none⟩ = some (.int .i64 x.kind) ∧ W.cell? ⟨b, o + k * 4 + 1, none⟩ = some (.int .i64 x.file) ∧ W.cell? ⟨b, o + k * 4 + 2, none⟩ = some (.int .i64 x.to) ∧ W.cell? ⟨b, o + k * 4 + 3, none⟩ = some (.slice ko x.b.length kc))
            (first
              | go_keep
              | exact (CW.out _ TW3.out.od.upd).2
              | exact (CW.out _ TW2.out.od.upd).2)
            (first
              | (go_at_call 14; refine (act_at H1.out TW2.out.oc HXM.out HBV.out).mono ?_; rintro e w6 ⟨rfl, st2, hst2, habs2⟩; have TW3 := hid (TW2.out.stepc hst2); have HABS2 := hid habs2)
              | (go_at_call 13; refine (num_any _ _).mono ?_; rintro e w' ⟨rfl, hww⟩; obtain rfl := hww.symm)
              | (go_at_call 14; refine (act_at H1.out TWD.out.od HXM.out HBV.out).mono ?_; rintro e w5 ⟨rfl, sd2, hst, habs⟩; have TW2 := hid (TWD.out.stepd hst); have HABS := hid habs))
          obtain ⟨heq, hlk⟩ := LK.out.step (names_nodup TW.out.od.ins) HABS.out HABS2.out
          rw [heq]
          have LK2 := hid hlk
          clear heq hlk hst habs hst2 habs2
          go_wp2
          go_roundw
          case rel => exact ⟨k + 1, by omega, by go_num, _, _, TW3.out, LK2.out⟩
          case measure => simp [intOf]; omega
        · obtain rfl : k = d1.length := by omega
          clear hlt hk C1 H1
          have hfi := files_any TW.out.od.ins
          rw [TW.out.od.p] at hfi
          have HFI := hid hfi
          clear hfi
          go_wp2_with fail
          refine HFI.out.mono ?_
          rintro e w5 ⟨v5, l5, rfl, hf5, ha5, hu5⟩
          have TW2 := hid (TW.out.more hu5)
          have hfi := files_any TW2.out.oc.ins
          rw [TW2.out.oc.p] at hfi
          have HFI := hid hfi
          have HF5 := hid hf5; have HA5 := hid ha5
          clear hf5 ha5 hu5 hfi
          go_wp2_with fail
          refine HFI.out.mono ?_
          rintro e w6 ⟨v6, l6, rfl, hf6, ha6, hu6⟩
          have TW3 := hid (TW2.out.more hu6)
          have HSF := hid (sameFiles_any (HF5.out.upd hu6 (fun _ _ h => h)) hf6)
          have HEQ := hid (show l5.map FV.abs = l6.map FV.abs by rw [HA5.out, ha6]; exact fileList_perm TW.out.od.ins LK.out.files)
          clear hf6 ha6 hu6
          go_wp2_with fail
          refine HSF.out.mono ?_
          rintro e w7 ⟨bb, rfl, hbi, hu7⟩
          obtain rfl : bb = true := hbi.2 HEQ.out
          have TW4 := hid (TW3.out.more hu7)
          have hfr := free_any TW4.out.od.ins
          rw [TW4.out.od.p] at hfr
          have HFR := hid hfr
          clear hbi hu7 hfr
          go_wp2_with fail
          refine HFR.out.mono ?_
          rintro e w8 ⟨rfl, n8, hww⟩
          have TW5 := hid (TW4.out.more (show Upd (fun _ => False) w7 w8 from by rw [hww]; exact (Upd.refl _ _).drewN n8))
          have hfr := free_any TW5.out.oc.ins
          have husd : sd.used = st.used := by rw [used_abs, used_abs]; exact sum_perm LK.out.files
          have hcpe : sd.cap = st.cap := LK.out.cap
          rw [TW5.out.oc.p, ← husd, ← hcpe] at hfr
          have HFR2 := hid hfr
          clear hww hfr husd hcpe
          go_wp2_with fail
          refine HFR2.out.mono ?_
          rintro e w9 ⟨rfl, n9, hww⟩
          have TW6 := hid (TW5.out.more (show Upd (fun _ => False) w8 w9 from by rw [hww]; exact (Upd.refl _ _).drewN n9))
          have hfi := files_any TW6.out.oc.ins
          rw [TW6.out.oc.p] at hfi
          have HFI := hid hfi
          clear hww hfi
          obtain ⟨fr, hfre⟩ : ∃ fr : Nat, fr = sd.cap - sd.used := ⟨_, rfl⟩
          rw [← hfre]
          clear hfre
          go_wp2_with fail
          refine HFI.out.mono ?_
          rintro e w10 ⟨v10, l10, rfl, hf10, ha10, hu10⟩
          have TW7 := hid (TW6.out.more hu10)
          obtain ⟨hsm1, hle1⟩ := files_small TW6.out.oc.ins ha10
          have HCO := hid (copied_any hf10 hsm1 hle1)
          have HA10 := hid ha10
          clear hf10 ha10 hu10 hsm1 hle1
          go_wp2_with fail
          refine HCO.out.mono ?_
          rintro e w11 ⟨vl, ll, rfl, hfl, hal, hul⟩
          have TW8 := hid (TW7.out.more hul)
          obtain ⟨al, cl, rfl, -, -, -⟩ := hfl.shape
          have HFL := hid hfl
          have HAL := hid (hal.trans HA10.out)
          have HAP := hid (show ∀ k, ownFiles (.slice al ll.length cl) ll k → k ∉ sd.blocks from fun k hk hm => by have := hfl.own_low hk; have := TW7.out.od.ins.lt k hm; omega)
          clear hfl hal hul
          go_wp2
          go_loopw [13] (fun j wr => ∃ k : Nat, k ≤ d2.length ∧ j = .int .i64 k ∧ ∃ s, Two w wr p pt s st ∧ FilesAt wr w10.heap.size (.slice al ll.length cl) ll ∧ (∀ k, ownFiles (.slice al ll.length cl) ll k → k ∉ s.blocks)) (fun j _ => d2.length - (intOf j).toNat)
          case atStart => exact ⟨0, Nat.zero_le _, rfl, sd, TW8.out, HFL.out, HAP.out⟩
          case round =>
            obtain ⟨k, hk, rfl, s, htw, hfl, hap⟩ := hrel
            have TZ := hid htw; have FL := hid hfl; have AP := hid hap
            clear htw hfl hap
            by_cases hlt : k < d2.length
            · obtain ⟨b, o, ko, kc, rfl, -, hbv, hcw⟩ := C2.out k hlt
              obtain ⟨hbr, r0, r1, r2, r3⟩ := hcw wr TZ.out.od.upd
              have HACT := hid (act_at H2.out TZ.out.od (List.getElem_mem hlt) hbv)
              clear hbv hcw
              go_wp2_with fail
              refine HACT.out.mono ?_
              rintro e w13 ⟨rfl, s2, hst, habs⟩
              have TZ2 := hid (TZ.out.stepd hst)
              have FL3 := hid (FL.out.keep hst.upd AP.out)
              have AP3 := hid (show ∀ k, ownFiles (.slice al ll.length cl) ll k → k ∉ s2.blocks from fun k hk hm => (hst.foot k hm).elim (AP.out k hk) (fun h => by have := FL.out.own_lt hk; omega))
              clear hst habs
              go_wp2
              go_roundw
              case rel => exact ⟨k + 1, by omega, by go_num, s2, TZ2.out, FL3.out, AP3.out⟩
              case measure => simp [intOf]; omega
            · have hfi := files_any TZ.out.oc.ins
              rw [TZ.out.oc.p] at hfi
              have HFI := hid hfi
              clear hfi
              go_wp2_with fail
              refine HFI.out.mono ?_
              rintro e w14 ⟨v14, l14, rfl, hf14, ha14, hu14⟩
              have TZ2 := hid (TZ.out.more hu14)
              have HSF2 := hid (sameFiles_any hf14 (FL.out.keep hu14 (fun _ _ h => h)))
              have HEQ2 := hid (show l14.map FV.abs = ll.map FV.abs by rw [ha14, HAL.out])
              clear hf14 ha14 hu14
              go_wp2_with fail
              refine HSF2.out.mono ?_
              rintro e w15 ⟨b4, rfl, hbi, hu15⟩
              obtain rfl : b4 = true := hbi.2 HEQ2.out
              have TZ3 := hid (TZ2.out.more hu15)
              have hdw := down_any TZ3.out.oc.ins
              rw [LK.out.dt, TZ3.out.oc.p] at hdw
              have HDW := hid hdw
              clear hbi hu15 hdw
              go_wp2_with (go_at_call 12; refine HDW.out.mono ?_; rintro e w' ⟨rfl, hww⟩; obtain rfl := hww.symm)
              go_ret
              exact ⟨rfl, TZ3.out.od.upd.below (Nat.le_refl _) (fun _ h => h.elim)⟩

end Go.Proofs.Ytohpgmeflmppaaa
