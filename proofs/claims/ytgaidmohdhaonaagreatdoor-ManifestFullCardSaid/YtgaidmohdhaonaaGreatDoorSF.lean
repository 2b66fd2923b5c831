/-
  stratalaw10.ManifestFull, walked up to the Swap.
-/
import Derived.Test.YtgaidmohdhaonaaGreatDoorSB
import Derived.Test.YtgaidmohdhaonaaGreatDoorSE
namespace Go.Proofs.YtgaidmohdhaonaaGreatDoor
set_option linter.unusedVariables false
set_option linter.unusedSimpArgs false
set_option linter.unnecessarySimpa false
set_option linter.unusedSectionVars false
open Go Go.RowKit

theorem Tryz.infoByteF : (Tryz.prog.info? 5).map (fun i => (i.zero, i.size, i.bytes)) = some (some (.int .u8 0), 1, 1) := by kernel_rfl
theorem made_zerosF (n : Nat) (hn : n ≤ 140737488351232) : ∃ M : Array Value, M.toList = (List.replicate n (0 : UInt8)).map byteV ∧ ∀ w : World, (Instr.makeSlice 22 (.int .i64 n) (.int .i64 n)).run Tryz.prog w = .ok (.slice (some ⟨w.heap.size, 0, none⟩) n n) (w.alloc (.cells M 5)) := by
  obtain ⟨i0, hi, hz0, hz1, hz2⟩ := info_parts Tryz.infoByteF
  refine ⟨madeCells #[.int .u8 0] n, ?_, fun w => ?_⟩
  · apply List.ext_getElem?
    intro i
    by_cases hi : i < n
    · simp [madeCells, hi, byteV, Nat.mod_one]
    · simp [madeCells, hi]
  · have h := run_make (P := Tryz.prog) w 22 5 i0 (.int .u8 0) Tryz.underlying22 hi hz0 .i64 .i64 (n : Int) (n : Int) (by omega) (by omega) (by rw [hz2]; omega) (by omega)
    rw [hz1, show (Value.int IntKind.u8 0).cells = #[.int .u8 0] from rfl] at h
    simpa using h
theorem zeros_data {W : World} {g n : Nat} {M : Array Value} (hM : M.toList = (List.replicate n (0 : UInt8)).map byteV) (hg : W.heap[g]? = some (.cells M 5 (0, 0))) (hn : n ≤ 1000000) : DataIs W (.slice (some ⟨g, 0, none⟩) n n) (List.replicate n 0) := by
  have hms : M.size = n := by have := congrArg List.length hM; rw [List.length_map, List.length_replicate, Array.length_toList] at this; exact this
  refine .inr ⟨g, n, M, by rw [List.length_replicate], hg, by rw [List.length_replicate]; exact Nat.le_refl _, by omega, by unfold maxLen; omega, ?_⟩
  rw [List.length_replicate, List.take_of_length_le (by rw [Array.length_toList]; omega), hM]

theorem listNames_len (s : DS) : (listNames s ⟨#[]⟩).length = s.abs.files.length := by
  unfold listNames
  rw [List.filter_eq_self.2 (fun n _ => by simp [hasPre, Lib.hasPrefix]), (sortNames_perm _).length_eq]
  simp [DS.names, DS.abs]
theorem list_len {w : World} {s : DS} (hs : s.In w) (k : Nat) (hk : s.abs.files.length = k) :
    Calls Tryz.prog 36 #[.pointer (some ⟨s.p, 0, none⟩), .string ⟨#[]⟩] w fun e w' => (∃ ao c, e = .returned (.slice ao k c)) ∧ Upd (fun _ => False) w w' := by
  refine (list_any hs ⟨#[]⟩).mono ?_
  rintro e w' ⟨v, n, rfl, hrow, hu⟩
  have hn : n = k := by have h := hrow.1; rw [List.length_map, listNames_len, hk] at h; simpa using h.symm
  subst hn
  obtain ⟨o, c, rfl, -, -⟩ := owns_shape hrow
  exact ⟨⟨o, c, rfl⟩, hu⟩
theorem free_p {w : World} {s : DS} (hs : s.In w) {C : Nat} {F : List FileA} (h : Fl C s.abs F) (k : Nat) (hk : C - usedL F = k) :
    Calls Tryz.prog 34 #[.pointer (some ⟨s.p, 0, none⟩)] w fun e w' => e = .returned (.int .i64 k) ∧ Upd (fun _ => False) w w' := by
  refine (free_any hs).mono ?_
  rintro e w' ⟨rfl, n, rfl⟩
  refine ⟨?_, (Upd.refl _ _).drewN n⟩
  have h1 : s.cap = C := h.cap
  have h2 : s.used = usedL F := by rw [usedP_abs, h.used]
  rw [h1, h2, hk]

set_option maxRecDepth 100000 in
set_option maxHeartbeats 12800000 in
theorem manifestFull_walk {w : World} {va : Value} {x : VerA} {fill : Int} (hT : TabIn w) (hv : VerAt w va x) (hin : VerIn x) (hf : I64 fill) :
    Calls Tryz.prog 5 #[va, .int .i64 fill] w fun e w' => e = .returned (.bool true) ∧ Upd (fun _ => False) w w' := by
  have HV := hid hv; have HT := hid hT; have HIN := hid hin
  obtain ⟨s1, d1, s2, d2, rfl, -, -⟩ := hv
  obtain ⟨m1, hm1⟩ : ∃ m, m = x.state.length := ⟨_, rfl⟩
  obtain ⟨m2, hm2⟩ : ∃ m, m = x.runs.length := ⟨_, rfl⟩
  rw [← hm1, ← hm2] at HV ⊢
  have HU1 := hid ((Upd.refl (fun _ => False) w).alloc (.cells #[.int .i64 x.gen, .int .i64 x.flushed, .int .i64 x.next, .int .i64 x.low, .int .i64 x.clock, .slice s1 m1 d1, .slice s2 m2 d2] 25))
  have HROW := hid (heap_alloc_new w (.cells #[.int .i64 x.gen, .int .i64 x.flushed, .int .i64 x.next, .int .i64 x.low, .int .i64 x.clock, .slice s1 m1 d1, .slice s2 m2 d2] 25))
  have HLK := hid (show ∀ r ∈ x.runs, r.first.length ≤ 140737488351232 ∧ r.last.length ≤ 140737488351232 from fun r hr => (HIN.out.2.2.2.2.2.2.2 r hr).2.2.2.2.2.2)
  obtain ⟨p2, hp2⟩ : ∃ p, p = w.heap.size := ⟨_, rfl⟩
  rw [← hp2] at HROW
  have HP2 := hid hp2
  obtain ⟨c, hc⟩ : ∃ c, c = (fill % 61).toNat := ⟨_, rfl⟩
  have hc60 : c ≤ 60 := by omega
  have hcf : (c : Int) = 0 + fill % (60 - 0 + 1) := by
    rw [hc, show ((60 : Int) - 0 + 1) = 61 from rfl, Int.toNat_of_nonneg (by omega)]
    omega
  have HWH := hid (fun W => whole_any fill 0 60 (by omega) (by omega) (by omega) W)
  rw [← hcf] at HWH
  have HC60 := hid hc60
  clear hT hin hm1 hm2 hp2 hf hc hcf hc60
  go_enter Tryz.func5, Tryz.ntmps5
  go_upto_region 1 with fail
  rw [← HP2.out]
  generalize w.alloc (.cells #[.int .i64 x.gen, .int .i64 x.flushed, .int .i64 x.next, .int .i64 x.low, .int .i64 x.clock, .slice s1 m1 d1, .slice s2 m2 d2] 25) = W1 at HU1 HROW ⊢
  have HNW := hid (new_yes W1 65536 (by omega))
  go_wp2_with fail
  refine HNW.out.mono ?_
  rintro e w1 ⟨s, rfl, hs, habs, hblk, hu⟩
  have HDB1 := hid ((DB.start hs (fun k hk => Nat.le_trans HU1.out.size (hblk k hk)) (HU1.out.trans hu (fun _ _ e => e))).add (b := p2) (hu.get HROW.out (fun e => e)) (by rw [HP2.out]; exact Nat.le_refl _) (fun e => by have h1 := hblk p2 e; have h2 := lt_of_heap HROW.out; omega))
  have HF1 := hid (show Fl 65536 s.abs [] from by rw [habs]; exact Fl.new _)
  have HABS := hid habs
  obtain ⟨p, hp⟩ : ∃ p, p = s.p := ⟨_, rfl⟩
  rw [← hp] at HDB1 ⊢
  clear hs habs hblk hu hp HNW
  go_wp2_with fail
  refine (lawNum_any _ _ (by omega)).mono ?_
  rintro e W ⟨rfl, hww⟩
  obtain rfl := hww.symm
  go_wp2_with fail
  refine (started_any (HDB1.out.tab HT.out)).mono ?_
  rintro e w2 ⟨rfl, hu2⟩
  have HDB2 := hid (HDB1.out.quiet hu2)
  clear hu2 HDB1
  go_wp2_with fail
  refine (lawFirst_any _).mono ?_
  rintro e w3 ⟨rfl, hu3⟩
  have HDB3 := hid (HDB2.out.quiet hu3)
  clear hu3 HDB2
  have HSW := hid (swap_any (HDB3.out.tab HT.out) HDB3.out.bes.ins (HDB3.out.zero HT.out) yB (by decide) (firstAt w3) (fun r hr => by cases hr))
  rw [HABS.out, full1.1, HDB3.out.bes.pp] at HSW
  go_wp2_with fail
  refine HSW.out.mono ?_
  rintro e w4 ⟨rfl, s4, hst4, habs4⟩
  have HDB4 := hid (HDB3.out.step hst4)
  have HF4 := hid (show Fl 65536 s4.abs [Y1] from by rw [habs4]; exact full1.2)
  clear hst4 habs4 HSW HDB3 HABS HF1
  go_wp2_with fail
  refine (lawNum_any _ _ (by omega)).mono ?_
  rintro e W ⟨rfl, hww⟩
  obtain rfl := hww.symm
  have HCR := hid (create_p HDB4.out.bes.ins zB)
  rw [(full2 HF4.out).1, HDB4.out.bes.pp] at HCR
  go_wp2_with fail
  refine HCR.out.mono ?_
  rintro e w5 ⟨rfl, s5, hst5, habs5⟩
  have HDB5 := hid (HDB4.out.step hst5)
  have HF5 := hid (show Fl 65536 s5.abs [Y1, ⟨zB, [], 0⟩] from by rw [habs5]; exact (full2 HF4.out).2)
  clear hst5 habs5 HCR HDB4 HF4
  go_wp2_with fail
  refine (lawNum_any _ _ (by omega)).mono ?_
  rintro e W ⟨rfl, hww⟩
  obtain rfl := hww.symm
  have HFR := hid (free_p HDB5.out.bes.ins HF5.out 65509 (by simp [usedL, first_len]))
  rw [HDB5.out.bes.pp] at HFR
  go_wp2_with fail
  refine HFR.out.mono ?_
  rintro e w6 ⟨rfl, hu6⟩
  have HDB6 := hid (HDB5.out.quiet hu6)
  clear hu6 HFR HDB5
  obtain ⟨n, hn⟩ : ∃ n, n = 65509 - c := ⟨_, rfl⟩
  have hni : (65509 : Int) - (c : Int) = (n : Int) := by have := HC60.out; omega
  have HN := hid hn
  have hnb : n ≤ 65509 := by omega
  have HNB := hid hnb
  obtain ⟨M, hM, hmk⟩ := made_zerosF n (by omega)
  have HM := hid hM
  have HMK := hid hmk
  have hc6 : (c : Int) ≤ 60 := by have := HC60.out; omega
  clear hn hM hmk
  go_wp2_with fail
  refine (HWH.out _).mono ?_
  rintro e W ⟨rfl, hww⟩
  obtain rfl := hww.symm
  have hmk6 := HMK.out w6
  have hu7 := (Upd.refl (fun _ => False) w6).alloc (.cells M 5)
  have HDB7 := hid (HDB6.out.quiet hu7)
  have HZD := hid (zeros_data HM.out (heap_alloc_new w6 (.cells M 5)) (by omega))
  have HAP := hid (append_p HDB7.out.bes.ins zB HZD.out (fun k hk e => by
    have h1 : w6.heap.size = k := by simpa [Value.ownBlock] using hk
    have h2 := HDB6.out.bes.ins.lt s5.p (by simp [DS.blocks])
    omega))
  rw [(full3 HF5.out HNB.out).1, HDB7.out.bes.pp] at HAP
  go_wp2_with fail
  refine HAP.out.mono ?_
  rintro e w8 ⟨rfl, s8, hst8, habs8⟩
  have HDB8 := hid (HDB7.out.step hst8)
  have HF8 := hid (show Fl 65536 s8.abs [Y1, Zf n] from by rw [habs8]; exact (full3 HF5.out HNB.out).2)
  clear hst8 habs8 HAP HDB7 HDB6 HF5 hmk6 hu7 HZD hni hc6 hnb
  go_wp2_with fail
  refine (lawNum_any _ _ (by omega)).mono ?_
  rintro e W ⟨rfl, hww⟩
  obtain rfl := hww.symm
  have hrow8 := HDB8.out.row (b := p2) (List.mem_singleton.2 rfl)
  obtain ⟨⟨z0, z1, z2, z3, z4, z5, z6⟩, -, hzl⟩ := verCells hrow8
  have HFOL := hid (follow_any (g := 2) (HV.out.keep HDB8.out.upd) HLK.out (by decide))
  clear hrow8
  go_wp2_with fail
  refine HFOL.out.mono ?_
  rintro e w9 ⟨v9, rfl, hva9, hu9⟩
  have HDB9 := hid (HDB8.out.quiet hu9)
  have HVY := hid (hva9 w HV.out)
  obtain ⟨y, hy⟩ : ∃ y, y = followA x 2 := ⟨_, rfl⟩
  rw [← hy] at HVY
  have HOKY := hid (show okA y = true from by rw [hy]; exact followA_ok (by decide))
  have HGY := hid (show y.gen = 2 from by rw [hy]; exact followA_gen _ _)
  have HCY := hid (show ∀ r ∈ y.runs, r.count ≤ 9223372036854775807 from by rw [hy]; exact followA_count (fun r hr => (HIN.out.2.2.2.2.2.2.2 r hr).2.1.2))
  have HLKY := hid (show ∀ r ∈ y.runs, r.first.length ≤ 140737488351232 ∧ r.last.length ≤ 140737488351232 from fun r hr => by have := (body_len HOKY.out).2 r hr; omega)
  have HRLY := hid (show y.runs.length ≤ 140737488351232 from by
    have h1 := okA_head HOKY.out
    simp [headA, ins] at h1
    omega)
  clear hy hva9 hu9 z0 z1 z2 z3 z4 z5 z6 hzl HFOL
  obtain ⟨t1, f1, t2, f2, hv9e, -, -⟩ := HVY.out
  obtain ⟨y1, hy1⟩ : ∃ k, k = y.gen := ⟨_, rfl⟩
  obtain ⟨y2, hy2⟩ : ∃ k, k = y.flushed := ⟨_, rfl⟩
  obtain ⟨y3, hy3⟩ : ∃ k, k = y.next := ⟨_, rfl⟩
  obtain ⟨y4, hy4⟩ : ∃ k, k = y.low := ⟨_, rfl⟩
  obtain ⟨y5, hy5⟩ : ∃ k, k = y.clock := ⟨_, rfl⟩
  obtain ⟨k1, hk1⟩ : ∃ k, k = y.state.length := ⟨_, rfl⟩
  obtain ⟨k2, hk2⟩ : ∃ k, k = y.runs.length := ⟨_, rfl⟩
  rw [← hy1, ← hy2, ← hy3, ← hy4, ← hy5, ← hk1, ← hk2] at hv9e
  subst hv9e
  have HYS := hid (show y1 = y.gen ∧ y2 = y.flushed ∧ y3 = y.next ∧ y4 = y.low ∧ y5 = y.clock ∧ k1 = y.state.length ∧ k2 = y.runs.length from ⟨hy1, hy2, hy3, hy4, hy5, hk1, hk2⟩)
  clear hy1 hy2 hy3 hy4 hy5 hk1 hk2
  go_upto_region 8 with fail
  have HDB10 := hid (HDB9.out.push (.cells #[.int .i64 y1, .int .i64 y2, .int .i64 y3, .int .i64 y4, .int .i64 y5, .slice t1 k1 f1, .slice t2 k2 f2] 25))
  obtain ⟨p8, hp8⟩ : ∃ q, q = w9.heap.size := ⟨_, rfl⟩
  rw [← hp8] at HDB10 ⊢
  generalize w9.alloc (.cells #[.int .i64 y1, .int .i64 y2, .int .i64 y3, .int .i64 y4, .int .i64 y5, .slice t1 k1 f1, .slice t2 k2 f2] 25) = w10 at HDB10 ⊢
  clear hp8 HDB9 HDB8
  have hrow10 := HDB10.out.row (b := p8) (List.mem_cons_self ..)
  obtain ⟨⟨z0, z1, z2, z3, z4, z5, z6⟩, -, hzl⟩ := verCells hrow10
  have HEN := hid (encode_any (HDB10.out.tab HT.out) (HVY.out.keep HDB10.out.upd) HOKY.out)
  have HLE := hid (encA_len HOKY.out)
  clear hrow10
  go_wp2_with fail
  refine HEN.out.mono ?_
  rintro e w11 ⟨v11, rfl, hn11⟩
  obtain ⟨q1, q2, e11, -, -⟩ := hn11.shape
  obtain ⟨N, hN⟩ : ∃ N, N = (encodeB y).length := ⟨_, rfl⟩
  rw [← hN] at e11 HLE
  subst e11
  have HDB11 := hid (HDB10.out.quiet hn11.upd)
  have HN' := hid hN
  have hN20 : ¬ (N = 0) := by have := HLE.out; omega
  have hNB : N ≤ 400000 := HLE.out.1
  clear hn11 hN z0 z1 z2 z3 z4 z5 z6 hzl HEN HDB10
  have hrow11 := HDB11.out.row (b := p8) (List.mem_cons_self ..)
  obtain ⟨⟨z0, z1, z2, z3, z4, z5, z6⟩, -, hzl⟩ := verCells hrow11
  have HSW := hid (swap_any (HDB11.out.tab HT.out) HDB11.out.bes.ins (HDB11.out.zero HT.out) yB (by decide) (HVY.out.keep HDB11.out.upd) HLKY.out)
  have HV11 := hid (show VerAt w (.agg #[.int .i64 y1, .int .i64 y2, .int .i64 y3, .int .i64 y4, .int .i64 y5, .slice t1 k1 f1, .slice t2 k2 f2]) y from HVY.out)
  rw [HDB11.out.bes.pp] at HSW
  clear hrow11
  have HF4 := hid (full4 HF8.out HNB.out HOKY.out HGY.out)
  rw [← HN'.out] at HF4
  by_cases hbig : c < N
  · have HR := hid (HF4.out.2 (by have h1 := HN.out; have h2 := HC60.out; omega))
    rw [HR.out.1] at HSW
    go_wp2_with fail
    refine HSW.out.mono ?_
    rintro e w12 ⟨rfl, s12, hst12, habs12⟩
    have HDB12 := hid (HDB11.out.step hst12)
    have HF12 := hid (show Fl 65536 s12.abs [Y1, Zf n] from by rw [habs12]; exact HR.out.2)
    clear hst12 habs12 HSW HR HF4 HDB11 z0 z1 z2 z3 z4 z5 z6 hzl
    have HLO := hid (load_any (HDB12.out.tab HT.out) HDB12.out.bes.ins (HDB12.out.zero HT.out) yB (by decide))
    rw [(HF12.out.load yB_ok full_find first_good).1, HDB12.out.bes.pp] at HLO
    go_wp2_with fail
    refine HLO.out.mono ?_
    rintro e w13 ⟨hres, s13, hst13, habs13⟩
    obtain ⟨v13, rfl, hva13⟩ := hres.val
    have HDB13 := hid (HDB12.out.step hst13)
    have HF13 := hid (show Fl 65536 s13.abs [Y1, Zf n] from by rw [habs13]; exact (HF12.out.load yB_ok full_find first_good).2)
    obtain ⟨o1, r1, o2, r2, hv13e, -, -⟩ := id hva13
    replace hv13e : v13 = .agg #[.int .i64 1, .int .i64 0, .int .i64 1, .int .i64 0, .int .i64 1, .slice o1 0 r1, .slice o2 0 r2] := hv13e
    subst hv13e
    have HVX0 := hid (show VerAt w13 (.agg #[.int .i64 1, .int .i64 0, .int .i64 1, .int .i64 0, .int .i64 1, .slice o1 0 r1, .slice o2 0 r2]) firstA from hva13)
    clear hst13 habs13 hres HLO HDB12 HF12 hva13
    go_upto_region 11 with fail
    have HDBX := hid (HDB13.out.push (.cells #[.int .i64 1, .int .i64 0, .int .i64 1, .int .i64 0, .int .i64 1, .slice o1 0 r1, .slice o2 0 r2] 25))
    have HVX := hid (HVX0.out.keep ((Upd.refl (fun _ => False) w13).alloc (.cells #[.int .i64 1, .int .i64 0, .int .i64 1, .int .i64 0, .int .i64 1, .slice o1 0 r1, .slice o2 0 r2] 25)))
    obtain ⟨px, hpx⟩ : ∃ q, q = w13.heap.size := ⟨_, rfl⟩
    have HPX := hid (show p8 ≠ px from fun e => by have h1 := lt_of_heap (HDB13.out.row (b := p8) (List.mem_cons_self ..)); omega)
    rw [← hpx] at HDBX ⊢
    (try generalize w13.alloc (.cells #[.int .i64 1, .int .i64 0, .int .i64 1, .int .i64 0, .int .i64 1, .slice o1 0 r1, .slice o2 0 r2] 25) = wv at HDBX HVX ⊢)
    clear hpx HDB13 HVX0
    go_wp2_with fail
    refine (lawNum_any _ _ (by omega)).mono ?_
    rintro e W ⟨rfl, hww⟩
    obtain rfl := hww.symm
    have HLI := hid (list_len HDBX.out.bes.ins 2 (by rw [HF13.out.files]; rfl))
    rw [HDBX.out.bes.pp] at HLI
    go_wp2_with fail
    refine HLI.out.mono ?_
    rintro e wx ⟨⟨lo, lc, rfl⟩, hux⟩
    have HDBX := hid (HDBX.out.quiet hux)
    have HVX := hid (HVX.out.keep hux)
    have HFX := hid HF13.out
    clear hux HLI
    have hbi : (c : Int) < (N : Int) := by omega
    go_wp2_with fail
    refine (HWH.out _).mono ?_
    rintro e W ⟨rfl, hww⟩
    obtain rfl := hww.symm
    go_upto_region 15 with fail
    have hHeld : (fun V : World => V.heap[px]? = some (.cells #[.int .i64 1, .int .i64 0, .int .i64 1, .int .i64 0, .int .i64 1, .slice o1 0 r1, .slice o2 0 r2] 25 (0, 0))) wx.drew := HDBX.out.row (List.mem_cons_self ..)
    refine wp_region_l (fun V => V.heap[px]? = some (.cells #[.int .i64 1, .int .i64 0, .int .i64 1, .int .i64 0, .int .i64 1, .slice o1 0 r1, .slice o2 0 r2] 25 (0, 0))) 14 15 rfl (by kernel_rfl) ?_
    refine wpAnyL_one 0 rfl (by kernel_rfl) (fun K hK => ?_)
    go_simp
    refine hK.out _ _ (fun _ => hHeld) ?_
    clear hK K
    (try simp only [Act.put, List.setIfInBounds_toArray, List.set_cons_zero, List.set_cons_succ])
    refine wpAnyL_one 1 rfl (by kernel_rfl) (fun K hK => ?_)
    go_simp
    go_at_call 13
    refine (lawNum_any _ _ (by omega)).mono ?_
    rintro e W ⟨rfl, hww⟩
    obtain rfl := hww.symm
    refine hK.out _ _ (fun _ => hHeld) ?_
    clear hK K
    (try simp only [Act.put, List.setIfInBounds_toArray, List.set_cons_zero, List.set_cons_succ])
    refine wpAnyL_one 2 rfl (by kernel_rfl) (fun K hK => ?_)
    go_simp
    refine hK.out _ _ (fun _ => hHeld) ?_
    clear hK K
    (try simp only [Act.put, List.setIfInBounds_toArray, List.set_cons_zero, List.set_cons_succ])
    refine wpAnyL_one 3 rfl (by kernel_rfl) (fun K hK => ?_)
    go_simp
    refine hK.out _ _ (fun _ => hHeld) ?_
    clear hK K
    (try simp only [Act.put, List.setIfInBounds_toArray, List.set_cons_zero, List.set_cons_succ])
    refine' wpAnyL_take 4 [6, 7, 8, 9, 14] (v := _) rfl (by kernel_rfl) (by kernel_rfl) (by kernel_rfl) (by kernel_rfl) (by simp) (fun _ _ _ h => h) (Or.inl ⟨by rfl, ?hz4⟩) (by assumption) ?rem4
    case hz4 => (intro wS hSw; obtain ⟨⟨e0, e1, e2, e3, e4, e5, e6⟩, -, -⟩ := verCells hSw; go_simp; (try with_reducible rfl))
    (try simp only [Act.put, List.setIfInBounds_toArray, List.set_cons_zero, List.set_cons_succ])
    refine wpAnyL_one 5 rfl (by kernel_rfl) (fun K hK => ?_)
    go_simp
    go_at_call 11
    refine (lawFirst_any _).mono ?_
    rintro e wa ⟨rfl, hua⟩
    have hHelda := hua.get hHeld (fun e => e)
    have HDBa := hid ((HDBX.out.quiet (Upd.refl (fun _ => False) wx).drew).quiet hua)
    have HVXa := hid ((HVX.out.keep (Upd.refl (fun _ => False) wx).drew).keep hua)
    clear hua
    refine hK.out _ _ (fun _ => hHelda) ?_
    clear hK K
    (try simp only [Act.put, List.setIfInBounds_toArray, List.set_cons_zero, List.set_cons_succ])
    refine wpAnyL_one 6 rfl (by kernel_rfl) (fun K hK => ?_)
    go_simp
    go_at_call 24
    refine (sameVer_any HVXa.out (firstAt wa) (by decide)).mono ?_
    rintro e wb ⟨rfl, hub⟩
    have hHeldb := hub.get hHelda (fun e => e)
    have HDBb := hid (HDBa.out.quiet hub)
    rw [show sameVerB firstA firstA = true from sameVerB_iff.2 rfl]
    clear hub
    refine hK.out _ _ (fun _ => hHeldb) ?_
    clear hK K
    (try simp only [Act.put, List.setIfInBounds_toArray, List.set_cons_zero, List.set_cons_succ])
    refine wpAnyL_one 7 rfl (by kernel_rfl) (fun K hK => ?_)
    go_simp
    refine hK.out _ _ (fun _ => hHeldb) ?_
    clear hK K
    (try simp only [Act.put, List.setIfInBounds_toArray, List.set_cons_zero, List.set_cons_succ])
    refine wpAnyL_one 8 rfl (by kernel_rfl) (fun K hK => ?_)
    go_simp
    refine hK.out _ _ (fun _ => hHeldb) ?_
    clear hK K
    (try simp only [Act.put, List.setIfInBounds_toArray, List.set_cons_zero, List.set_cons_succ])
    refine wpAnyL_one 9 rfl (by kernel_rfl) (fun K hK => ?_)
    go_simp
    refine hK.out _ _ (fun _ => hHeldb) ?_
    clear hK K
    (try simp only [Act.put, List.setIfInBounds_toArray, List.set_cons_zero, List.set_cons_succ])
    refine' wpAnyL_take 10 [11, 13, 14] (v := _) rfl (by kernel_rfl) (by kernel_rfl) (by kernel_rfl) (by kernel_rfl) (by simp) (fun _ _ _ h => h) (Or.inl ⟨by rfl, ?hz10⟩) (by assumption) ?rem10
    case hz10 => (intro wS hSw; skip; go_simp; (try with_reducible rfl))
    (try simp only [Act.put, List.setIfInBounds_toArray, List.set_cons_zero, List.set_cons_succ])
    refine' wpAnyL_take 12 [13, 14] (v := _) rfl (by kernel_rfl) (by kernel_rfl) (by kernel_rfl) (by kernel_rfl) (by simp) (fun _ _ _ h => h) (Or.inl ⟨by rfl, ?hz12⟩) (by assumption) ?rem12
    case hz12 => (intro wS hSw; skip; go_simp; (try with_reducible rfl))
    (try simp only [Act.put, List.setIfInBounds_toArray, List.set_cons_zero, List.set_cons_succ])
    refine wpAnyL_one 11 rfl (by kernel_rfl) (fun K hK => ?_)
    go_simp
    go_at_call 34
    have HFRb := free_p HDBb.out.bes.ins HFX.out c (by rw [full_used HNB.out, HN.out]; have := HC60.out; omega)
    rw [HDBb.out.bes.pp] at HFRb
    refine HFRb.mono ?_
    rintro e wc' ⟨rfl, huc⟩
    have hHeldc := huc.get hHeldb (fun e => e)
    have HDBc := hid (HDBb.out.quiet huc)
    clear huc
    refine hK.out _ _ (fun _ => hHeldc) ?_
    clear hK K
    (try simp only [Act.put, List.setIfInBounds_toArray, List.set_cons_zero, List.set_cons_succ])
    refine wpAnyL_one 13 rfl (by kernel_rfl) (fun K hK => ?_)
    go_simp
    refine hK.out _ _ (fun _ => hHeldc) ?_
    clear hK K
    (try simp only [Act.put, List.setIfInBounds_toArray, List.set_cons_zero, List.set_cons_succ])
    refine wpAnyL_one 14 rfl (by kernel_rfl) (fun K hK => ?_)
    go_simp
    refine hK.out _ _ (fun _ => hHeldc) ?_
    clear hK K
    (try simp only [Act.put, List.setIfInBounds_toArray, List.set_cons_zero, List.set_cons_succ])
    refine wpAnyL_done (by kernel_rfl) ?_ _
    clear hHeld hHelda hHeldb hHeldc HDBX HDBa HDBb HVXa HFRb HVX
    have hNi : ((60000 : Int) < (N : Int)) ∨ ¬ ((60000 : Int) < (N : Int)) := Classical.em _
    rcases hNi with h6 | h6
    · go_wp2
      go_ret
      exact ⟨rfl, HDBc.out.upd⟩
    · have h60 : N ≤ 60000 := by omega
      have H60 := hid h60
      have HDE := hid (delete_p HDBc.out.bes.ins zB)
      rw [(full5 HFX.out).1, HDBc.out.bes.pp] at HDE
      clear h60
      go_wp2_with fail
      refine HDE.out.mono ?_
      rintro e wd ⟨rfl, s14, hst14, habs14⟩
      have HDBd := hid (HDBc.out.step hst14)
      have HFd := hid (show Fl 65536 s14.abs [Y1] from by rw [habs14]; exact (full5 HFX.out).2)
      clear hst14 habs14 HDE HDBc
      go_wp2_with fail
      refine (lawNum_any _ _ (by omega)).mono ?_
      rintro e W ⟨rfl, hww⟩
      obtain rfl := hww.symm
      have HF6 := hid (full6 HFd.out HOKY.out HGY.out (by rw [← HN'.out]; exact H60.out))
      have hrowd := HDBd.out.row (b := p8) (List.mem_cons_of_mem _ (List.mem_cons_self ..))
      obtain ⟨⟨z0, z1, z2, z3, z4, z5, z6⟩, -, hzl⟩ := verCells hrowd
      have HSW := hid (swap_any (HDBd.out.tab HT.out) HDBd.out.bes.ins (HDBd.out.zero HT.out) yB (by decide) (HV11.out.keep HDBd.out.upd) HLKY.out)
      rw [HF6.out.1, HDBd.out.bes.pp] at HSW
      clear hrowd
      go_wp2_with fail
      refine HSW.out.mono ?_
      rintro e we ⟨rfl, s15, hst15, habs15⟩
      have HDBe := hid (HDBd.out.step hst15)
      have HFe := hid (show Fl 65536 s15.abs [Y2 y] from by rw [habs15]; exact HF6.out.2)
      have HGOOD := hid (show GoodM (some y) from by
        intro x' hx'
        obtain rfl : y = x' := by simpa using hx'
        exact ⟨HOKY.out, HCY.out⟩)
      clear hst15 habs15 HSW HDBd HFd HF6 z0 z1 z2 z3 z4 z5 z6 hzl
      go_wp2_with fail
      refine (lawNum_any _ _ (by omega)).mono ?_
      rintro e W ⟨rfl, hww⟩
      obtain rfl := hww.symm
      have HLO := hid (load_any (HDBe.out.tab HT.out) HDBe.out.bes.ins (HDBe.out.zero HT.out) yB (by decide))
      rw [(HFe.out.load yB_ok (full_find3 y) HGOOD.out).1, HDBe.out.bes.pp] at HLO
      go_wp2_with fail
      refine HLO.out.mono ?_
      rintro e wf ⟨hres, s16, hst16, habs16⟩
      obtain ⟨v16, rfl, hown16⟩ := hres
      have hva16 : VerAt wf v16 y := hown16.at
      have HOWN := hid hown16
      have HPXL := hid (lt_of_heap (HDBe.out.row (b := px) (List.mem_cons_self ..)))
      clear hown16
      have HDBf := hid (HDBe.out.step hst16)
      obtain ⟨u1, j1, u2, j2, hv16e, -, -⟩ := id hva16
      replace hv16e : v16 = .agg #[.int .i64 y.gen, .int .i64 y.flushed, .int .i64 y.next, .int .i64 y.low, .int .i64 y.clock, .slice u1 y.state.length j1, .slice u2 y.runs.length j2] := hv16e
      clear hva16
      obtain ⟨g1, g2, g3, g4, g5, g6, g7⟩ := HYS.out
      rw [← g1, ← g2, ← g3, ← g4, ← g5, ← g6, ← g7] at hv16e
      subst hv16e
      clear g1 g2 g3 g4 g5 g6 g7 hst16 habs16 HLO HDBe
      have hpx := HDBf.out.row (b := px) (List.mem_cons_self ..)
      obtain ⟨⟨h0, h1, h2, h3, h4, h5, h6'⟩, ⟨e0, e1, e2, e3, e4, e5, e6⟩, hlS⟩ := verCells hpx
      have HOUT := hid (And.intro (verOut_at hpx y1 y2 y3 y4 y5 (.slice u1 k1 j1) (.slice u2 k2 j2)) (verOut_upd (S := fun k => k = px) (Upd.refl _ wf) (p := px) (fun _ => rfl) y1 y2 y3 y4 y5 (.slice u1 k1 j1) (.slice u2 k2 j2)))
      have HDBg := hid (HDBf.out.set (R' := [(p8, .cells #[.int .i64 y1, .int .i64 y2, .int .i64 y3, .int .i64 y4, .int .i64 y5, .slice t1 k1 f1, .slice t2 k2 f2] 25 (0, 0))]) (List.mem_cons_self ..) HOUT.out.2 HOUT.out.1 (fun r hr => by
        obtain rfl := List.mem_singleton.1 hr
        refine ⟨List.mem_cons_of_mem _ (List.mem_cons_self ..), fun e => ?_⟩
        have e1 : p8 = px := e
        exact absurd e1 HPX.out))
      have HSV := hid (sameVer_any (x := y) (y := y) (HOWN.out.keep HOUT.out.2 (fun k e => by have := HPXL.out; omega)).at (HV11.out.keep HDBg.out.upd) HRLY.out)
      rw [show sameVerB y y = true from sameVerB_iff.2 rfl] at HSV
      unfold verOut at HDBg HSV
      clear HOUT hpx
      go_upto_region 22 with fail
      generalize (((((((wf.setCell ⟨px, 0, none⟩ (.int .i64 y1)).setCell ⟨px, 1, none⟩ (.int .i64 y2)).setCell ⟨px, 2, none⟩ (.int .i64 y3)).setCell ⟨px, 3, none⟩ (.int .i64 y4)).setCell ⟨px, 4, none⟩ (.int .i64 y5)).setCell ⟨px, 5, none⟩ (.slice u1 k1 j1)).setCell ⟨px, 6, none⟩ (.slice u2 k2 j2)) = wg at HDBg HSV ⊢
      clear h0 h1 h2 h3 h4 h5 h6' e0 e1 e2 e3 e4 e5 e6 hlS
      have hpxg := HDBg.out.row (b := px) (List.mem_cons_self ..)
      have hp8g := HDBg.out.row (b := p8) (List.mem_cons_of_mem _ (List.mem_cons_self ..))
      obtain ⟨⟨h0, h1, h2, h3, h4, h5, h6'⟩, -, hlS⟩ := verCells hpxg
      obtain ⟨⟨z0, z1, z2, z3, z4, z5, z6⟩, -, hzl⟩ := verCells hp8g
      clear hpxg hp8g
      go_wp2_with fail
      refine HSV.out.mono ?_
      rintro e wh ⟨rfl, huh⟩
      have HUH := hid (HDBg.out.upd.trans huh (fun _ _ e => e))
      clear huh h0 h1 h2 h3 h4 h5 h6' z0 z1 z2 z3 z4 z5 z6
      go_wp2
      go_ret
      exact ⟨rfl, HUH.out⟩
  · have HR := hid (HF4.out.1 (by have h1 := HN.out; have h2 := HC60.out; omega))
    have HGOOD := hid (show GoodM (some y) from by
      intro x' hx'
      obtain rfl : y = x' := by simpa using hx'
      exact ⟨HOKY.out, HCY.out⟩)
    rw [HR.out.1] at HSW
    go_wp2_with fail
    refine HSW.out.mono ?_
    rintro e w12 ⟨rfl, s12, hst12, habs12⟩
    have HDB12 := hid (HDB11.out.step hst12)
    have HF12 := hid (show Fl 65536 s12.abs [Zf n, Y2 y] from by rw [habs12]; exact HR.out.2)
    clear hst12 habs12 HSW HR HF4 HDB11 z0 z1 z2 z3 z4 z5 z6 hzl
    have HLO := hid (load_any (HDB12.out.tab HT.out) HDB12.out.bes.ins (HDB12.out.zero HT.out) yB (by decide))
    rw [(HF12.out.load yB_ok (full_find2 y) HGOOD.out).1, HDB12.out.bes.pp] at HLO
    go_wp2_with fail
    refine HLO.out.mono ?_
    rintro e w13 ⟨hres, s13, hst13, habs13⟩
    obtain ⟨v13, rfl, hown13⟩ := hres
    have hva13 : VerAt w13 v13 y := hown13.at
    have HVX0 := hid hva13
    have HDB13 := hid (HDB12.out.step hst13)
    have HF13 := hid (show Fl 65536 s13.abs [Zf n, Y2 y] from by rw [habs13]; exact (HF12.out.load yB_ok (full_find2 y) HGOOD.out).2)
    obtain ⟨u1, j1, u2, j2, hv13e, -, -⟩ := hva13
    obtain ⟨g1, g2, g3, g4, g5, g6, g7⟩ := HYS.out
    rw [← g1, ← g2, ← g3, ← g4, ← g5, ← g6, ← g7] at hv13e
    subst hv13e
    clear g1 g2 g3 g4 g5 g6 g7 hst13 habs13 hown13 HLO HDB12 HF12
    go_upto_region 11 with fail
    have HDBX := hid (HDB13.out.push (.cells #[.int .i64 y1, .int .i64 y2, .int .i64 y3, .int .i64 y4, .int .i64 y5, .slice u1 k1 j1, .slice u2 k2 j2] 25))
    have HVX := hid (HVX0.out.keep ((Upd.refl (fun _ => False) w13).alloc (.cells #[.int .i64 y1, .int .i64 y2, .int .i64 y3, .int .i64 y4, .int .i64 y5, .slice u1 k1 j1, .slice u2 k2 j2] 25)))
    obtain ⟨px, hpx⟩ : ∃ q, q = w13.heap.size := ⟨_, rfl⟩
    rw [← hpx] at HDBX ⊢
    generalize w13.alloc (.cells #[.int .i64 y1, .int .i64 y2, .int .i64 y3, .int .i64 y4, .int .i64 y5, .slice u1 k1 j1, .slice u2 k2 j2] 25) = wv at HDBX HVX ⊢
    clear hpx HDB13 HVX0
    go_wp2_with fail
    refine (lawNum_any _ _ (by omega)).mono ?_
    rintro e W ⟨rfl, hww⟩
    obtain rfl := hww.symm
    have HLI := hid (list_len HDBX.out.bes.ins 2 (by rw [HF13.out.files]; rfl))
    rw [HDBX.out.bes.pp] at HLI
    go_wp2_with fail
    refine HLI.out.mono ?_
    rintro e wx ⟨⟨lo, lc, rfl⟩, hux⟩
    have HDBY := hid (HDBX.out.quiet hux)
    have HVXY := hid (HVX.out.keep hux)
    clear hux HLI HDBX HVX
    have hbi : ¬ ((c : Int) < (N : Int)) := by omega
    go_wp2_with fail
    refine (HWH.out _).mono ?_
    rintro e W ⟨rfl, hww⟩
    obtain rfl := hww.symm
    have hpxg := HDBY.out.row (b := px) (List.mem_cons_self ..)
    have hp8g := HDBY.out.row (b := p8) (List.mem_cons_of_mem _ (List.mem_cons_self ..))
    obtain ⟨⟨h0, h1, h2, h3, h4, h5, h6'⟩, -, hlS⟩ := verCells hpxg
    obtain ⟨⟨z0, z1, z2, z3, z4, z5, z6⟩, -, hzl⟩ := verCells hp8g
    have HSV := hid (sameVer_any HVXY.out (HV11.out.keep HDBY.out.upd) HRLY.out)
    rw [show sameVerB y y = true from sameVerB_iff.2 rfl] at HSV
    clear hpxg hp8g
    go_wp2_with fail
    refine HSV.out.mono ?_
    rintro e wh ⟨rfl, huh⟩
    have HUH := hid (HDBY.out.upd.trans huh (fun _ _ e => e))
    clear huh h0 h1 h2 h3 h4 h5 h6' z0 z1 z2 z3 z4 z5 z6
    go_wp2
    go_ret
    exact ⟨rfl, HUH.out⟩

end Go.Proofs.YtgaidmohdhaonaaGreatDoor
