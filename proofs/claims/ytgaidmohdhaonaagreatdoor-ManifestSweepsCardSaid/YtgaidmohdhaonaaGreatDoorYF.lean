/-
  Package manifest, walked: Check.
  Package manifest, walked: the closure in Encode that puts numbers; a slice of bytes in a box that grows.
-/
import Derived.Test.YtgaidmohdhaonaaGreatDoorYE
namespace Go.Proofs.YtgaidmohdhaonaaGreatDoor
set_option linter.unusedVariables false
set_option linter.unusedSimpArgs false
set_option linter.unnecessarySimpa false
set_option linter.unusedSectionVars false
open Go Go.RowKit

theorem getD_at {α : Type} {l : List α} {k : Nat} {d : α} (hk : k < l.length) : l.getD k d = l[k] := by
  rw [List.getD_eq_getElem?_getD, List.getElem?_eq_getElem hk]; rfl
theorem checkA_head {x : VerA} (h : headA x = false) : checkA x = 101 := by unfold checkA okA; rw [h]; rfl
theorem checkA_run {x : VerA} {k : Nat} (hk : k < x.runs.length) (h : runOkA x k = false) : checkA x = 101 := by
  have : okA x = false := by
    unfold okA
    have h2 : (List.range x.runs.length).all (runOkA x) = false := by
      rw [List.all_eq_false]
      exact ⟨k, by simpa using hk, by simp [h]⟩
    rw [h2, Bool.and_false]
  unfold checkA; rw [this]; rfl
theorem checkA_ok {x : VerA} (hh : headA x = true) (h : ∀ j < x.runs.length, runOkA x j = true) : checkA x = 0 := by
  have : okA x = true := by
    unfold okA
    rw [hh, Bool.true_and, List.all_eq_true]
    intro j hj
    exact h j (by simpa using hj)
  unfold checkA; rw [this]; rfl
theorem headA_of {x : VerA} (h : headA x = true) : (1 ≤ x.next ∧ x.next ≤ 1099511627776) ∧ x.state.length ≤ 131072 ∧ x.runs.length ≤ 64 := by
  unfold headA ins at h
  simp only [Bool.and_eq_true, decide_eq_true_eq] at h
  exact ⟨h.1.1.1.1.2, h.1.2, h.2⟩
theorem runOkA_eq {x : VerA} {k : Nat} (hk : k < x.runs.length) : runOkA x k = (fitsA x x.runs[k] && !(decide (x.runs[k].num ∈ (x.runs.take k).map MetaA.num)) && (decide (k = 0) || behindA (x.runs.getD (k - 1) zeroMeta) x.runs[k])) := by
  unfold runOkA
  rw [getD_at hk]
  congr 2
  congr 1
  rw [Bool.eq_iff_iff]
  simp only [List.any_eq_true, decide_eq_true_eq, List.mem_map]

set_option maxRecDepth 100000 in
set_option maxHeartbeats 6400000 in
theorem verCheck_any {w : World} {v : Value} {x : VerA} (hv : VerAt w v x) (hl : ∀ r ∈ x.runs, r.first.length ≤ 140737488351232 ∧ r.last.length ≤ 140737488351232) :
    Calls Tryz.prog 67 #[v] w fun e w' => e = .returned (.int .i64 (checkA x)) ∧ Upd (fun _ => False) w w' := by
  obtain ⟨s1, d1, s2, d2, rfl, hb1, hb2⟩ := hv
  have HB1 := hid hb1; have HB2 := hid hb2; have HLN := hid hl
  clear hb1 hb2 hl
  have HW := hid (fun (W : World) (n lo hi : Int) (h : lo ≤ n ∧ n ≤ hi) => show Calls Tryz.prog 129 #[.int .i64 n, .int .i64 lo, .int .i64 hi] W fun e w' => e = .returned (.bool true) ∧ w' = W from by have h1 := within_any (w := W) (n := n) (lo := lo) (hi := hi); rwa [show decide (lo ≤ n ∧ n ≤ hi) = true from by simpa using h] at h1)
  have HN := hid (fun (W : World) (n lo hi : Int) (h : ¬ (lo ≤ n ∧ n ≤ hi)) => show Calls Tryz.prog 129 #[.int .i64 n, .int .i64 lo, .int .i64 hi] W fun e w' => e = .returned (.bool false) ∧ w' = W from by have h1 := within_any (w := W) (n := n) (lo := lo) (hi := hi); rwa [show decide (lo ≤ n ∧ n ≤ hi) = false from by simpa using h] at h1)
  have HU0 := hid ((Upd.refl (fun _ => False) w).alloc (.cells #[.int .i64 x.gen, .int .i64 x.flushed, .int .i64 x.next, .int .i64 x.low, .int .i64 x.clock, .slice s1 x.state.length d1, .slice s2 x.runs.length d2] 25))
  have hmm := @run_makeMap Tryz.prog
  go_enter Tryz.func67, Tryz.ntmps67
  go_upto_region 1 with fail
  go_cut [49] (fun b wx => b = .bool (!headA x) ∧ wx = (w.alloc (.cells #[.int .i64 x.gen, .int .i64 x.flushed, .int .i64 x.next, .int .i64 x.low, .int .i64 x.clock, .slice s1 x.state.length d1, .slice s2 x.runs.length d2] 25)))
  case first =>
    by_cases h0 : 1 ≤ x.gen ∧ x.gen ≤ 1099511627776
    · skip
      by_cases h1 : 0 ≤ x.flushed ∧ x.flushed ≤ 1099511627776
      · skip
        by_cases h2 : 1 ≤ x.next ∧ x.next ≤ 1099511627776
        · skip
          by_cases h3 : 1 ≤ x.clock ∧ x.clock ≤ 1099511627776
          · skip
            have hsub : IntKind.i64.wrap (x.clock - 1) = x.clock - 1 := by rw [IntKind.wrap_i64]; omega
            by_cases h4 : 0 ≤ x.low ∧ x.low ≤ (x.clock - 1)
            · skip
              by_cases h5 : (131072 : Int) < (x.state.length : Int)
              · skip
                go_wp2_with fail
                refine (HW.out _ _ _ _ h0).mono ?_
                rintro e wn ⟨rfl, hww⟩
                subst hww
                go_wp2_with fail
                refine (HW.out _ _ _ _ h1).mono ?_
                rintro e wn ⟨rfl, hww⟩
                subst hww
                go_wp2_with fail
                refine (HW.out _ _ _ _ h2).mono ?_
                rintro e wn ⟨rfl, hww⟩
                subst hww
                go_wp2_with fail
                refine (HW.out _ _ _ _ h3).mono ?_
                rintro e wn ⟨rfl, hww⟩
                subst hww
                go_wp2_with fail
                refine (HW.out _ _ _ _ h4).mono ?_
                rintro e wn ⟨rfl, hww⟩
                subst hww
                go_wp2
                go_meet
                case rel => exact ⟨by (try clear hsub); first | (simp [headA, ins, *]; done) | (simp [headA, ins]; omega) | (simp [headA, ins, *]; omega), rfl⟩
              · skip
                by_cases h6 : (64 : Int) < (x.runs.length : Int)
                · skip
                  go_wp2_with fail
                  refine (HW.out _ _ _ _ h0).mono ?_
                  rintro e wn ⟨rfl, hww⟩
                  subst hww
                  go_wp2_with fail
                  refine (HW.out _ _ _ _ h1).mono ?_
                  rintro e wn ⟨rfl, hww⟩
                  subst hww
                  go_wp2_with fail
                  refine (HW.out _ _ _ _ h2).mono ?_
                  rintro e wn ⟨rfl, hww⟩
                  subst hww
                  go_wp2_with fail
                  refine (HW.out _ _ _ _ h3).mono ?_
                  rintro e wn ⟨rfl, hww⟩
                  subst hww
                  go_wp2_with fail
                  refine (HW.out _ _ _ _ h4).mono ?_
                  rintro e wn ⟨rfl, hww⟩
                  subst hww
                  go_wp2
                  go_meet
                  case rel => exact ⟨by (try clear hsub); first | (simp [headA, ins, *]; done) | (simp [headA, ins]; omega) | (simp [headA, ins, *]; omega), rfl⟩
                · skip
                  go_wp2_with fail
                  refine (HW.out _ _ _ _ h0).mono ?_
                  rintro e wn ⟨rfl, hww⟩
                  subst hww
                  go_wp2_with fail
                  refine (HW.out _ _ _ _ h1).mono ?_
                  rintro e wn ⟨rfl, hww⟩
                  subst hww
                  go_wp2_with fail
                  refine (HW.out _ _ _ _ h2).mono ?_
                  rintro e wn ⟨rfl, hww⟩
                  subst hww
                  go_wp2_with fail
                  refine (HW.out _ _ _ _ h3).mono ?_
                  rintro e wn ⟨rfl, hww⟩
                  subst hww
                  go_wp2_with fail
                  refine (HW.out _ _ _ _ h4).mono ?_
                  rintro e wn ⟨rfl, hww⟩
                  subst hww
                  have HHD := hid (show headA x = true from by unfold headA ins; simp only [Bool.and_eq_true, decide_eq_true_eq]; exact ⟨⟨⟨⟨⟨⟨h0, h1⟩, h2⟩, h3⟩, h4⟩, by omega⟩, by omega⟩)
                  go_wp2
                  go_meet
                  case rel => exact ⟨by rw [HHD.out]; simp; omega, rfl⟩
            · skip
              go_wp2_with fail
              refine (HW.out _ _ _ _ h0).mono ?_
              rintro e wn ⟨rfl, hww⟩
              subst hww
              go_wp2_with fail
              refine (HW.out _ _ _ _ h1).mono ?_
              rintro e wn ⟨rfl, hww⟩
              subst hww
              go_wp2_with fail
              refine (HW.out _ _ _ _ h2).mono ?_
              rintro e wn ⟨rfl, hww⟩
              subst hww
              go_wp2_with fail
              refine (HW.out _ _ _ _ h3).mono ?_
              rintro e wn ⟨rfl, hww⟩
              subst hww
              go_wp2_with fail
              refine (HN.out _ _ _ _ h4).mono ?_
              rintro e wn ⟨rfl, hww⟩
              subst hww
              go_wp2
              go_meet
              case rel => exact ⟨by (try clear hsub); first | (simp [headA, ins, *]; done) | (simp [headA, ins]; omega) | (simp [headA, ins, *]; omega), rfl⟩
          · skip
            go_wp2_with fail
            refine (HW.out _ _ _ _ h0).mono ?_
            rintro e wn ⟨rfl, hww⟩
            subst hww
            go_wp2_with fail
            refine (HW.out _ _ _ _ h1).mono ?_
            rintro e wn ⟨rfl, hww⟩
            subst hww
            go_wp2_with fail
            refine (HW.out _ _ _ _ h2).mono ?_
            rintro e wn ⟨rfl, hww⟩
            subst hww
            go_wp2_with fail
            refine (HN.out _ _ _ _ h3).mono ?_
            rintro e wn ⟨rfl, hww⟩
            subst hww
            go_wp2
            go_meet
            case rel => exact ⟨by (try clear hsub); first | (simp [headA, ins, *]; done) | (simp [headA, ins]; omega) | (simp [headA, ins, *]; omega), rfl⟩
        · skip
          go_wp2_with fail
          refine (HW.out _ _ _ _ h0).mono ?_
          rintro e wn ⟨rfl, hww⟩
          subst hww
          go_wp2_with fail
          refine (HW.out _ _ _ _ h1).mono ?_
          rintro e wn ⟨rfl, hww⟩
          subst hww
          go_wp2_with fail
          refine (HN.out _ _ _ _ h2).mono ?_
          rintro e wn ⟨rfl, hww⟩
          subst hww
          go_wp2
          go_meet
          case rel => exact ⟨by (try clear hsub); first | (simp [headA, ins, *]; done) | (simp [headA, ins]; omega) | (simp [headA, ins, *]; omega), rfl⟩
      · skip
        go_wp2_with fail
        refine (HW.out _ _ _ _ h0).mono ?_
        rintro e wn ⟨rfl, hww⟩
        subst hww
        go_wp2_with fail
        refine (HN.out _ _ _ _ h1).mono ?_
        rintro e wn ⟨rfl, hww⟩
        subst hww
        go_wp2
        go_meet
        case rel => exact ⟨by (try clear hsub); first | (simp [headA, ins, *]; done) | (simp [headA, ins]; omega) | (simp [headA, ins, *]; omega), rfl⟩
    · skip
      go_wp2_with fail
      refine (HN.out _ _ _ _ h0).mono ?_
      rintro e wn ⟨rfl, hww⟩
      subst hww
      go_wp2
      go_meet
      case rel => exact ⟨by (try clear hsub); first | (simp [headA, ins, *]; done) | (simp [headA, ins]; omega) | (simp [headA, ins, *]; omega), rfl⟩
  case rest =>
    obtain ⟨hv49, hcw⟩ := hcut
    subst hcw
    obtain ⟨B, hB⟩ : ∃ B, B = !headA x := ⟨_, rfl⟩
    rw [← hB] at hv49
    subst hv49
    cases B
    rotate_left
    · skip
      have HR := hid (checkA_head (by simpa using hB.symm))
      clear hB
      go_wp2
      go_ret
      exact ⟨by rw [HR.out]; rfl, HU0.out⟩
    have hh : headA x = true := by simpa using hB.symm
    have HH := hid hh
    have HHO := hid (headA_of hh)
    clear hh
    clear hB
    have hrow0 := hid (show (w.alloc (.cells #[.int .i64 x.gen, .int .i64 x.flushed, .int .i64 x.next, .int .i64 x.low, .int .i64 x.clock, .slice s1 x.state.length d1, .slice s2 x.runs.length d2] 25)).heap[w.heap.size]? = some (.cells #[.int .i64 x.gen, .int .i64 x.flushed, .int .i64 x.next, .int .i64 x.low, .int .i64 x.clock, .slice s1 x.state.length d1, .slice s2 x.runs.length d2] 25 (0, 0)) from heap_alloc_new _ _)
    obtain ⟨ao, cap, e, hcap1, hcap2, hcells⟩ := HB2.out.keep HU0.out
    injection e with e1 e2 e3
    subst e1
    subst e3
    clear e2
    obtain ⟨q, hq⟩ : ∃ q, q = w.heap.size := ⟨_, rfl⟩
    rw [← hq] at hrow0
    obtain ⟨W0, hW0⟩ : ∃ W0, W0 = (w.alloc (.cells #[.int .i64 x.gen, .int .i64 x.flushed, .int .i64 x.next, .int .i64 x.low, .int .i64 x.clock, .slice s1 x.state.length d1, .slice s2 x.runs.length d2] 25)) := ⟨_, rfl⟩
    rw [← hW0] at hrow0 HU0 hcells ⊢
    rw [← hq]
    have HSZ := hid (show W0.heap.size = q + 1 from by rw [hW0, hq]; simp)
    have HCE := hid hcells
    clear hW0 hq hcells
    have b6 := cell_of_row W0 q 6 _ _ _ hrow0.out
    have hql0 : q < W0.heap.size := by have := HSZ.out; omega
    have hql : q < W0.heap.size + 1 := by omega
    obtain ⟨m, hm⟩ : ∃ m, m = W0.heap.size := ⟨_, rfl⟩
    have HM := hid hm
    obtain ⟨W1, hW1⟩ : ∃ W1, W1 = W0.alloc (.map #[] 0) := ⟨_, rfl⟩
    have HW1 := hid hW1
    have HM0 := hid (show SetI W1 m [] from by rw [hW1, hm]; exact SetI.made W0)
    have HU1 := hid (show Upd (fun _ => False) W0 W1 from by rw [hW1]; exact (Upd.refl _ _).alloc _)
    clear hW1 hm
    have HLK := hid (fun (W : World) (L : List Int) (h : SetI W m L) (n : Int) => run_lookup_set (P := Tryz.prog) Tryz.underlying190 Tryz.underlying3 (fun _ => by kernel_rfl) h n)
    have HJN := hid (fun (W : World) (L : List Int) (h : SetI W m L) (n : Int) (hn : n ∉ L) => run_join_set (P := Tryz.prog) Tryz.underlying190 Tryz.underlying3 h n hn)
    go_wp2
    rw [← HM.out]
    go_loopw [54] (fun i wr => ∃ k : Nat, k ≤ x.runs.length ∧ i = .int .i64 k ∧ SetI wr m ((x.runs.take k).map MetaA.num) ∧ Upd (fun b => b = m) W1 wr ∧ ∀ j < k, runOkA x j = true) (fun i _ => x.runs.length - (intOf i).toNat)
    case atStart => exact ⟨0, Nat.zero_le _, rfl, by rw [← HW1.out]; exact HM0.out, by rw [← HW1.out]; exact Upd.refl _ _, fun j hj => absurd hj (by omega)⟩
    case round =>
      obtain ⟨k, hk, rfl, hset, hup, hok⟩ := hrel
      have HSET := hid hset; have HUP := hid hup; have HOK := hid hok
      clear hset hup hok b6 hql hql0 hmm
      have HUW := hid (HU1.out.trans HUP.out (fun b hb e => by have := HM.out; omega))
      have HUA := hid (HU0.out.trans HUW.out (fun _ _ e => e))
      have HRQ := hid (HUW.out.get hrow0.out (fun e => e))
      have hqw : q < wr.heap.size := lt_of_heap HRQ.out
      have hqw1 : q < wr.heap.size + 1 := by omega
      by_cases hlt : k < x.runs.length
      · obtain ⟨b, o, f1, c1, f2, c2, hs2, hb, g0, g1, g2, g3, g4, g5, g6, g7, hB1, hB2⟩ := HCE.out k hlt
        subst hs2
        have hm : x.runs[k] ∈ x.runs := List.getElem_mem hlt
        have HLR := hid (HLN.out _ hm)
        have HOR := hid (runOkA_eq hlt)
        have HNUM := hid (show (x.runs.take (k + 1)).map MetaA.num = (x.runs.take k).map MetaA.num ++ [x.runs[k].num] from by rw [List.take_succ_eq_append_getElem hlt, List.map_append]; rfl)
        obtain ⟨r, hr⟩ : ∃ r, r = x.runs[k] := ⟨_, rfl⟩
        rw [← hr] at g0 g1 g2 g3 g4 g5 g6 g7 hB1 hB2 HLR HOR HNUM
        have u0 := HUW.out.cell hb g0; have u1 := HUW.out.cell hb g1; have u2 := HUW.out.cell hb g2; have u3 := HUW.out.cell hb g3
        have u4 := HUW.out.cell hb g4; have u5 := HUW.out.cell hb g5; have u6 := HUW.out.cell hb g6; have u7 := HUW.out.cell hb g7
        have hbw : b < wr.heap.size := Nat.lt_of_lt_of_le hb HUW.out.size
        have v0 := cell_of_row wr q 0 _ _ _ HRQ.out; have v1 := cell_of_row wr q 1 _ _ _ HRQ.out; have v2 := cell_of_row wr q 2 _ _ _ HRQ.out; have v3 := cell_of_row wr q 3 _ _ _ HRQ.out
        have v4 := cell_of_row wr q 4 _ _ _ HRQ.out; have v5 := cell_of_row wr q 5 _ _ _ HRQ.out; have v6 := cell_of_row wr q 6 _ _ _ HRQ.out
        have HUR := hid ((Upd.refl (fun _ => False) wr).alloc (.cells #[.int .i64 r.num, .int .i64 r.count, .int .i64 r.index, .int .i64 r.low, .int .i64 r.clock, .int .i64 r.bytes, .slice f1 r.first.length c1, .slice f2 r.last.length c2] 48))
        have HF := hid (show Calls Tryz.prog 130 #[(.agg #[.int .i64 x.gen, .int .i64 x.flushed, .int .i64 x.next, .int .i64 x.low, .int .i64 x.clock, .slice s1 x.state.length d1, .slice (some ⟨b, o, none⟩) x.runs.length d2]), (.agg #[.int .i64 r.num, .int .i64 r.count, .int .i64 r.index, .int .i64 r.low, .int .i64 r.clock, .int .i64 r.bytes, .slice f1 r.first.length c1, .slice f2 r.last.length c2])] (wr.alloc (.cells #[.int .i64 r.num, .int .i64 r.count, .int .i64 r.index, .int .i64 r.low, .int .i64 r.clock, .int .i64 r.bytes, .slice f1 r.first.length c1, .slice f2 r.last.length c2] 48)) fun e w' => e = .returned (.bool (fitsA x r)) ∧ Upd (fun _ => False) (wr.alloc (.cells #[.int .i64 r.num, .int .i64 r.count, .int .i64 r.index, .int .i64 r.low, .int .i64 r.clock, .int .i64 r.bytes, .slice f1 r.first.length c1, .slice f2 r.last.length c2] 48)) w' from runFits_any ⟨_, _, rfl⟩ ⟨f1, c1, f2, c2, rfl, (hB1.keep HUW.out).keep HUR.out, (hB2.keep HUW.out).keep HUR.out⟩ HHO.out.1.1 (by have := HHO.out.1.2; omega) HLR.out.1 HLR.out.2)
        have HROW := hid (heap_alloc_new wr (.cells #[.int .i64 r.num, .int .i64 r.count, .int .i64 r.index, .int .i64 r.low, .int .i64 r.clock, .int .i64 r.bytes, .slice f1 r.first.length c1, .slice f2 r.last.length c2] 48))
        clear g0 g1 g2 g3 g4 g5 g6 g7 hB1 hB2 hm hr
        obtain ⟨b5, hb5⟩ : ∃ b5, b5 = wr.heap.size := ⟨_, rfl⟩
        rw [← hb5] at HROW
        have HB5 := hid hb5
        clear hb5
        obtain ⟨F, hF⟩ : ∃ F, F = fitsA x r := ⟨_, rfl⟩
        rw [← hF] at HF HOR
        clear hF
        cases F
        · skip
          have HR := hid (checkA_run hlt (by rw [HOR.out]; rfl))
          go_wp2_with fail
          refine HF.out.mono ?_
          rintro e w2 ⟨rfl, hu2⟩
          have HU2 := hid ((HUA.out.trans HUR.out (fun _ _ e => e)).trans hu2 (fun _ _ e => e))
          clear hu2
          go_wp2
          go_ret
          exact ⟨by rw [HR.out]; rfl, HU2.out⟩
        go_wp2_with fail
        refine HF.out.mono ?_
        rintro e w2 ⟨rfl, hu2⟩
        rw [← HB5.out]
        have HU2 := hid (HUR.out.trans hu2 (fun _ _ e => e))
        have HRO2 := hid (hu2.get HROW.out (fun e => e))
        have HSET2 := hid (HSET.out.keep HU2.out (fun e => e))
        have h5lt : b5 < w2.heap.size := lt_of_heap HRO2.out
        have z0 := cell_of_row w2 b5 0 _ _ _ HRO2.out
        have hlk := HLK.out w2 _ HSET2.out r.num
        clear hu2 u0 u1 u2 u3 u4 u5 u6 u7 v0 v1 v2 v3 v4 v5 v6
        by_cases hmem : r.num ∈ (x.runs.take k).map MetaA.num
        · have HR := hid (checkA_run hlt (by rw [HOR.out, decide_eq_true hmem]; rfl))
          rw [decide_eq_true hmem] at hlk
          clear hmem
          go_wp2
          go_ret
          exact ⟨by rw [HR.out]; rfl, HUA.out.trans HU2.out (fun _ _ e => e)⟩
        rw [decide_eq_false hmem] at hlk
        obtain ⟨w3, hjoin, hset3, hu3⟩ := HJN.out w2 _ HSET2.out r.num hmem
        rw [← HNUM.out] at hset3
        have HOR2 := hid (show runOkA x k = (decide (k = 0) || behindA (x.runs.getD (k - 1) zeroMeta) r) from by rw [HOR.out, decide_eq_false hmem]; rfl)
        clear hmem
        have HNE5 := hid (show b5 ≠ m from fun e => by have h1 := HB5.out; have h2 := HM.out; have h3 := HUW.out.size; have h4 := HSET.out; obtain ⟨_, _, h5, _⟩ := h4; have := lt_of_heap h5; omega)
        have HRO3 := hid (hu3.get HRO2.out HNE5.out)
        have HUM := hid (show Upd (fun b => b = m) W1 w3 from (HUP.out.trans (HU2.out.mono (T := fun b => b = m) (fun _ _ e => e.elim)) (fun _ _ e => e)).trans hu3 (fun _ _ e => e))
        have HU3 := hid (HU1.out.trans HUM.out (fun b hb e => by have := HM.out; omega))
        have HUA3 := hid (HU0.out.trans HU3.out (fun _ _ e => e))
        have HSET3 := hid hset3
        have h5l : b5 < w3.heap.size := lt_of_heap HRO3.out
        clear hset3 hu3
        by_cases hk0 : k = 0
        · have hkb : (((k : Nat) : Int) == 0) = true := by rw [hk0]; rfl
          have HOKN := hid (show ∀ j < k + 1, runOkA x j = true from by
            intro j hj
            rcases Nat.lt_succ_iff_lt_or_eq.1 hj with h | rfl
            · exact HOK.out j h
            · rw [HOR2.out]; simp [hk0])
          clear hk0
          go_wp2
          go_roundw
          case rel => exact ⟨k + 1, by omega, by simp, HSET3.out, HUM.out, HOKN.out⟩
          case measure => simp [intOf]; omega
        have hkb : (((k : Nat) : Int) == 0) = false := by simpa using hk0
        obtain ⟨j, hkj⟩ : ∃ j, k = j + 1 := ⟨k - 1, by omega⟩
        have hjk : IntKind.i64.wrap ((k : Int) - 1) = (j : Int) := by rw [IntKind.wrap_i64]; have := HHO.out.2.2; omega
        have hjk2 : (k : Int) - 1 = (j : Int) := by omega
        have hjl : j < x.runs.length := by omega
        obtain ⟨b', o', y1, e1, y2, e2, hs2, hb', g0, g1, g2, g3, g4, g5, g6, g7, -, -⟩ := HCE.out j hjl
        injection hs2 with hs2
        injection hs2 with hs21 hs22
        subst hs21
        subst hs22
        have HGD := hid (show x.runs.getD (k - 1) zeroMeta = x.runs[j] from by rw [hkj, Nat.add_sub_cancel]; exact getD_at hjl)
        obtain ⟨p, hp⟩ : ∃ p, p = x.runs[j] := ⟨_, rfl⟩
        rw [← hp] at g0 g1 g2 g3 g4 g5 g6 g7 HGD
        have u0 := HU3.out.cell hb' g0; have u1 := HU3.out.cell hb' g1; have u2 := HU3.out.cell hb' g2; have u3 := HU3.out.cell hb' g3
        have u4 := HU3.out.cell hb' g4; have u5 := HU3.out.cell hb' g5; have u6 := HU3.out.cell hb' g6; have u7 := HU3.out.cell hb' g7
        have hbw3 : b < w3.heap.size := Nat.lt_of_lt_of_le hb HU3.out.size
        have hqr := HU3.out.get hrow0.out (fun e => e)
        have t6 := cell_of_row w3 q 6 _ _ _ hqr
        have hq3 : q < w3.heap.size := lt_of_heap hqr
        have z2 := cell_of_row w3 b5 2 _ _ _ HRO3.out; have z3 := cell_of_row w3 b5 3 _ _ _ HRO3.out; have z4 := cell_of_row w3 b5 4 _ _ _ HRO3.out
        have HUP6 := hid (HUA3.out.alloc (.cells #[.int .i64 p.num, .int .i64 p.count, .int .i64 p.index, .int .i64 p.low, .int .i64 p.clock, .int .i64 p.bytes, .slice y1 p.first.length e1, .slice y2 p.last.length e2] 48))
        have HUM6 := hid (HUM.out.alloc (.cells #[.int .i64 p.num, .int .i64 p.count, .int .i64 p.index, .int .i64 p.low, .int .i64 p.clock, .int .i64 p.bytes, .slice y1 p.first.length e1, .slice y2 p.last.length e2] 48))
        have HSET6 := hid (HSET3.out.keep ((Upd.refl (fun _ => False) w3).alloc (.cells #[.int .i64 p.num, .int .i64 p.count, .int .i64 p.index, .int .i64 p.low, .int .i64 p.clock, .int .i64 p.bytes, .slice y1 p.first.length e1, .slice y2 p.last.length e2] 48)) (fun e => e))
        have HOR3 := hid (show runOkA x k = behindA p r from by rw [HOR2.out, HGD.out]; simp [hk0])
        have HKL := hid hlt
        clear g0 g1 g2 g3 g4 g5 g6 g7 hqr hkj hk0 hp HRQ hqw hqw1 hbw
        by_cases h1 : p.index ≤ r.index
        · have HR := hid (checkA_run hlt (by rw [HOR3.out]; unfold behindA; simp; omega))
          go_wp2
          go_ret
          exact ⟨by rw [HR.out]; rfl, HUP6.out⟩
        by_cases h2 : p.clock < r.clock
        · have HR := hid (checkA_run hlt (by rw [HOR3.out]; unfold behindA; simp; omega))
          go_wp2
          go_ret
          exact ⟨by rw [HR.out]; rfl, HUP6.out⟩
        by_cases h3 : p.low < r.low
        · have HR := hid (checkA_run hlt (by rw [HOR3.out]; unfold behindA; simp; omega))
          go_wp2
          go_ret
          exact ⟨by rw [HR.out]; rfl, HUP6.out⟩
        have HOKN := hid (show ∀ j < k + 1, runOkA x j = true from by
          intro j hj
          rcases Nat.lt_succ_iff_lt_or_eq.1 hj with h | rfl
          · exact HOK.out j h
          · rw [HOR3.out]; unfold behindA; simp; omega)
        go_wp2
        go_roundw
        case rel => exact ⟨k + 1, by omega, by simp, HSET6.out, HUM6.out, HOKN.out⟩
        case measure => simp [intOf]; omega
      · obtain rfl : k = x.runs.length := by omega
        have HR := hid (checkA_ok HH.out HOK.out)
        go_wp2
        go_ret
        exact ⟨by rw [HR.out]; rfl, HUA.out⟩

end Go.Proofs.YtgaidmohdhaonaaGreatDoor

namespace Go.Proofs.YtgaidmohdhaonaaGreatDoor
set_option linter.unusedVariables false
set_option linter.unusedSimpArgs false
set_option linter.unnecessarySimpa false
set_option linter.unusedSectionVars false
open Go Go.RowKit

/-- The box q holds a slice v of bytes of the call's own. -/
structure PutS (w0 W : World) (q : Nat) (v : Value) (bs : List UInt8) : Prop where
  box : W.heap[q]? = some (.cells #[v] 22 (0, 0))
  data : NewB w0 W v bs
  ne : ∀ k, v.ownBlock = some k → k ≠ q
  low : w0.heap.size ≤ q

theorem PutS.drew {w0 W : World} {q : Nat} {v : Value} {bs : List UInt8} (h : PutS w0 W q v bs) : PutS w0 W.drew q v bs :=
  ⟨h.box, h.data.keep ((Upd.refl (fun _ => False) W).drew), h.ne, h.low⟩

theorem PutS.keep {w0 W W1 : World} {q : Nat} {v : Value} {bs : List UInt8} (h : PutS w0 W q v bs) (hu : Upd (fun _ => False) W W1) : PutS w0 W1 q v bs :=
  ⟨hu.get h.box (fun e => e), h.data.keep hu, h.ne, h.low⟩

/-- What a call leaves whose bytes are then appended to the box's. -/
def PutNext (w0 W : World) (q : Nat) (v : Value) (bs news : List UInt8) (e : Ending) (W1 : World) : Prop :=
  ∃ sa sl sc ao L cap w2, e = .returned (.slice sa sl sc) ∧ W1.cell? ⟨q, 0, none⟩ = some v ∧ q < W1.heap.size ∧
    (Builtin.append_ #[22, 22] 22 #[v, .slice sa sl sc]).run Tryz.prog W1 = .ok (.slice ao L cap) w2 ∧ w2.cell? ⟨q, 0, none⟩ = some v ∧ w2.frozen? ⟨q, 0, none⟩ = false ∧ q < w2.heap.size ∧
    Hid (PutS w0 (w2.setCell ⟨q, 0, none⟩ (.slice ao L cap)) q (.slice ao L cap) (bs ++ news) ∧ Upd (fun k => k = q ∨ v.ownBlock = some k) W (w2.setCell ⟨q, 0, none⟩ (.slice ao L cap)) ∧
      ∀ k, (Value.slice ao L cap).ownBlock = some k → v.ownBlock = some k ∨ W.heap.size ≤ k)

theorem PutS.next {w0 W : World} {q : Nat} {v : Value} {bs news : List UInt8} (h : PutS w0 W q v bs) {F : Nat} {args : Array Value}
    (hc : Calls Tryz.prog F args W fun e W1 => ∃ s, e = .returned s ∧ NewB W W1 s news) (hl : bs.length + news.length ≤ 140737488355328) :
    Calls Tryz.prog F args W fun e W1 => PutNext w0 W q v bs news e W1 := by
  refine hc.mono ?_
  rintro e W1 ⟨s, rfl, hn⟩
  have h1 := h.keep hn.upd
  obtain ⟨sa, sc, hs, -, -⟩ := hn.shape
  obtain ⟨v', w2, hr, hd, hu, hat⟩ := run_append_data h1.data.data hn.data.bat.bytes hl 22
  have hq1 := lt_of_heap h1.box
  have hb2 := hu.get h1.box (fun e => (h1.ne q e) rfl)
  obtain ⟨ao, cap, hv', -, -⟩ := hd.bat
  subst hv'
  subst hs
  have hne2 : ∀ k, (Value.slice ao (bs ++ news).length cap).ownBlock = some k → k ≠ q := by
    intro k hk
    rcases hat k hk with h2 | h2
    · exact h1.ne k h2
    · omega
  have hset : Upd (fun k => k = q ∨ v.ownBlock = some k) W1 (w2.setCell ⟨q, 0, none⟩ (.slice ao (bs ++ news).length cap)) := (hu.mono (fun k _ e => .inr e)).setCell (fun _ => .inl rfl) _
  have hq0 : w0.heap.size ≤ W.heap.size := h.data.upd.size
  have hsz : W.heap.size ≤ W1.heap.size := hn.upd.size
  refine ⟨sa, _, sc, ao, _, cap, w2, rfl, cell_of_row _ _ 0 _ _ _ h1.box, hq1, hr, cell_of_row _ _ 0 _ _ _ hb2, frozen_of_row _ _ _ _ _ hb2, lt_of_heap hb2, ⟨heap_setCell_at _ _ _ _ _ _ hb2, ⟨?_, ?_, ?_⟩, hne2, h.low⟩, ?_, ?_⟩
  · exact hd.upd (Upd.cell_only w2 q 0 _) hne2
  · intro k hk
    rcases hat k hk with h2 | h2
    · exact h1.data.new k h2
    · omega
  · exact h1.data.upd.trans hset (fun k hk e => e.elim (fun e => by have := h.low; omega) (fun e => by have := h1.data.new k e; omega))
  · exact (hn.upd.mono (T := fun k => k = q ∨ v.ownBlock = some k) (fun _ _ e => e.elim)).trans hset (fun k hk e => e)
  · intro k hk
    rcases hat k hk with h2 | h2
    · exact .inl h2
    · exact .inr (Nat.le_trans hsz h2)

theorem uintsB_snoc (l : List Int) (n : Int) : uintsB (l ++ [n]) = uintsB l ++ uintB (n % 18446744073709551616).toNat := by
  unfold uintsB; simp
theorem uintsB_len (l : List Int) : (uintsB l).length ≤ 10 * l.length := by
  induction l with
  | nil => simp [uintsB]
  | cons n l ih =>
    have h1 : uintsB (n :: l) = uintB (n % 18446744073709551616).toNat ++ uintsB l := by unfold uintsB; simp
    have h2 := uintB_len 9 (n % 18446744073709551616).toNat (by omega)
    rw [h1, List.length_append, List.length_cons]
    omega

set_option maxRecDepth 100000 in
set_option maxHeartbeats 6400000 in
theorem put_any {w0 w : World} {q a : Nat} {v : Value} {bs : List UInt8} {nums : List Int} (h : PutS w0 w q v bs) (ha : a < w.heap.size) (haq : a ≠ q) (hav : ∀ k, v.ownBlock = some k → k ≠ a) (hn : nums.length ≤ 1000000)
    (hl : bs.length ≤ 1000000000) (hc : ∀ j (hj : j < nums.length), w.cell? ⟨a, j, none⟩ = some (.int .i64 nums[j])) :
    Calls Tryz.prog 68 #[.slice (some ⟨a, 0, none⟩) nums.length nums.length, .pointer (some ⟨q, 0, none⟩)] w fun e w' => e = .returned (.tuple #[]) ∧
      Upd (fun b => b = q ∨ v.ownBlock = some b) w w' ∧ ∃ va vl vc, PutS w0 w' q (.slice va vl vc) (bs ++ uintsB nums) ∧ ∀ b, (Value.slice va vl vc).ownBlock = some b → v.ownBlock = some b ∨ w.heap.size ≤ b := by
  have H0 := hid h; have HC := hid hc; have HAV := hid hav
  obtain ⟨va0, vc0, hv, -, -⟩ := h.data.shape
  obtain ⟨n, hnn⟩ : ∃ n, n = nums.length := ⟨_, rfl⟩
  rw [← hnn]
  have HNN := hid hnn
  have hn6 : n ≤ 1000000 := by omega
  have HL := hid hl; have HA := hid ha; have HAQ := hid haq
  clear h hc hav hnn hl ha haq hn
  go_enter Tryz.func68, Tryz.ntmps68
  go_wp2
  go_loopw [7] (fun i wr => ∃ k : Nat, k ≤ n ∧ i = .int .i64 k ∧ ∃ va vl vc, PutS w0 wr q (.slice va vl vc) (bs ++ uintsB (nums.take k)) ∧ Upd (fun b => b = q ∨ v.ownBlock = some b) w wr ∧ ∀ b, (Value.slice va vl vc).ownBlock = some b → v.ownBlock = some b ∨ w.heap.size ≤ b) (fun i _ => n - (intOf i).toNat)
  case atStart => exact ⟨0, Nat.zero_le _, rfl, va0, _, vc0, by rw [← hv]; simpa [uintsB] using H0.out, Upd.refl _ _, by rw [← hv]; exact fun b e => .inl e⟩
  case round =>
    obtain ⟨k, hk, rfl, va, vl, vc, hp, hu, ho⟩ := hrel
    have HP := hid hp; have HU := hid hu; have HO := hid ho
    clear hp hu ho
    by_cases hlt : k < n
    · have hlt' : k < nums.length := by have := HNN.out; omega
      have haw : a < wr.heap.size := Nat.lt_of_lt_of_le HA.out HU.out.size
      have hcell : wr.cell? ⟨a, k, none⟩ = some (.int .i64 nums[k]) := (World.cell?_of_block (a := ⟨a, k, none⟩) (HU.out.block a HA.out (fun e => e.elim HAQ.out (fun e => HAV.out a e rfl)))).trans (HC.out k hlt')
      have HT := hid (show uintsB (nums.take (k + 1)) = uintsB (nums.take k) ++ uintB (nums[k] % 18446744073709551616).toNat from by rw [List.take_succ_eq_append_getElem hlt', uintsB_snoc])
      obtain ⟨x, hx⟩ : ∃ x, x = nums[k] := ⟨_, rfl⟩
      rw [← hx] at hcell HT
      have hxe : (((x % 18446744073709551616).toNat : Nat) : Int) = x % 18446744073709551616 := by omega
      have hul := uintB_len 9 (x % 18446744073709551616).toNat (by omega)
      have htl := uintsB_len (nums.take k)
      have HCALL := hid (show Calls Tryz.prog 69 #[.int .u64 (x % 18446744073709551616)] wr.drew fun e W1 => PutNext w0 wr.drew q (.slice va vl vc) (bs ++ uintsB (nums.take k)) (uintB (x % 18446744073709551616).toNat) e W1 from by
        have h := HP.out.drew.next (uint_any (w := wr.drew) (n := (x % 18446744073709551616).toNat) (by omega)) (by
          have := HL.out
          have h3 : (nums.take k).length ≤ k := by simp; omega
          rw [List.length_append]; omega)
        rw [hxe] at h
        exact h)
      have hq0 := cell_of_row _ _ 0 _ _ _ HP.out.box
      have hqw := lt_of_heap HP.out.box
      clear hx hxe hul htl hlt' hv
      go_wp2_with fail
      go_region_law (first | (go_simp; go_at_call 69; refine HCALL.out.mono ?_; rintro e W1 ⟨sa, sl, sc, ao, L, cap, w2, rfl, t1, t2, hr, t3, t4, t5, hF⟩) | (refine step_append_eq rfl (.tmp 11) (.tmp 14) 22 rfl rfl rfl hr ?_))
      all_goals
        have HR1 := hid hF.out.1
        have HR2 := hid hF.out.2.1
        have HR3 := hid hF.out.2.2
        clear hr
        go_wp2
        go_roundw
        case rel =>
          refine ⟨k + 1, by omega, by simp, ao, L, cap, ?_, ?_, ?_⟩
          · rw [HT.out, ← List.append_assoc]; exact HR1.out
          · exact HU.out.trans ((Upd.refl (fun b => b = q ∨ (Value.slice va vl vc).ownBlock = some b) wr).drew.trans HR2.out (fun _ _ e => e)) (fun b hb e => e.elim .inl (fun e => (HO.out b e).elim .inr (fun e => by omega)))
          · intro b e
            rcases HR3.out b e with e | e
            · exact HO.out b e
            · exact .inr (Nat.le_trans HU.out.size e)
        case measure => simp [intOf]; omega
    · obtain rfl : k = n := by omega
      have HFIN := hid (show PutS w0 wr q (.slice va vl vc) (bs ++ uintsB nums) from by have h := HP.out; rw [HNN.out, List.take_length] at h; exact h)
      go_wp2
      go_end0
      exact ⟨rfl, HU.out, va, vl, vc, HFIN.out, HO.out⟩

theorem PutS.start (W : World) : PutS W (W.alloc (.cells #[.slice none 0 0] 22)) W.heap.size (.slice none 0 0) [] :=
  ⟨heap_alloc_new _ _, (NewB.nil W).keep ((Upd.refl (fun _ => False) W).alloc _), (fun k e => by cases e), Nat.le_refl _⟩
theorem PutS.lt {w0 W : World} {q : Nat} {v : Value} {bs : List UInt8} (h : PutS w0 W q v bs) : ∀ k, v.ownBlock = some k → k < W.heap.size := by
  intro k hk
  rcases h.data.data with ⟨rfl, -⟩ | ⟨g, cap, cur, rfl, hg, -⟩
  · cases hk
  · simp only [Value.ownBlock, Option.some.injEq] at hk; subst hk; exact lt_of_heap hg

theorem NewB.lit {w W : World} (hu : Upd (fun _ => False) w W) (ms : List UInt8) (h0 : 0 < ms.length) (hl : ms.length ≤ 1000) : NewB w (W.alloc (.cells (ms.map byteV).toArray 5)) (.slice (some ⟨W.heap.size, 0, none⟩) ms.length ms.length) ms :=
  ⟨.inr ⟨W.heap.size, _, _, rfl, heap_alloc_new _ _, Nat.le_refl _, by simp, by unfold maxLen; omega, by rw [List.take_of_length_le (by simp)]⟩, fun k e => by simp only [Value.ownBlock, Option.some.injEq] at e; have := hu.size; omega, hu.alloc _⟩

theorem isKeyB_len {b : List UInt8} (h : isKeyB b = true) : b.length ≤ 1100 := by
  unfold isKeyB at h
  split at h
  · cases h
  · rename_i e p _
    simp only [decide_eq_true_eq] at h
    obtain ⟨hb, hk⟩ := h
    rw [← hk]
    unfold EntA.bad at hb
    split at hb
    · omega
    · split at hb
      · omega
      · split at hb
        · omega
        · rename_i h1 h2 h3
          have l1 := ordT_len e.row
          have l2 := ordT_len e.qual
          unfold EntA.key ordB
          simp only [List.length_append, List.length_cons, List.length_nil, eightB_len]
          split <;> simp only [List.length_append, List.length_cons, List.length_nil] <;> omega

end Go.Proofs.YtgaidmohdhaonaaGreatDoor
