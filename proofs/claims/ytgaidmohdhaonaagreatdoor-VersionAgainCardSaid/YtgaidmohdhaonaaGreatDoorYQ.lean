/-
  Package strataref1, walked: Frame.
  Package strataref10, walked: uints, Encode.
-/
import Derived.Test.YtgaidmohdhaonaaGreatDoorYL
import Derived.Test.YtgaidmohdhaonaaGreatDoorYP
import Derived.Test.YtgaidmohdhaonaaGreatDoorYN
import Derived.Test.YtgaidmohdhaonaaGreatDoorYG
import Derived.Test.YtgaidmohdhaonaaGreatDoorYH
namespace Go.Proofs.YtgaidmohdhaonaaGreatDoor
set_option linter.unusedVariables false
set_option linter.unusedSimpArgs false
set_option linter.unnecessarySimpa false
set_option linter.unusedSectionVars false
open Go Go.RowKit

theorem eight_high (n : Nat) (h : n < 4294967296) : ((eightB n).drop 4).take 4 = highB n := by
  simp [eightB, highB]

set_option maxRecDepth 100000 in
set_option maxHeartbeats 3200000 in
theorem refFrame_any {w : World} {v : Value} {b : List UInt8} (hv : BAt w v b) (hl : b.length ≤ 1048576) :
    Calls Tryz.prog 139 #[v] w fun e w' => ∃ v', e = .returned (.tuple #[v', .int .i64 0]) ∧ NewB w w' v' (frameB b) := by
  have HV := hid hv
  obtain ⟨ao, cap, rfl, h1, h2, -, -⟩ := hv
  obtain ⟨n, hn⟩ : ∃ n, n = b.length := ⟨_, rfl⟩
  have HNN := hid hn
  have HE := hid (refEight_any (w := w) (n := n) (by omega))
  have hni : ¬ (1048576 : Int) < (n : Int) := by omega
  rw [← hn] at h1 hl ⊢
  clear hn
  go_enter Tryz.func139, Tryz.ntmps139
  go_wp2_with fail
  refine HE.out.mono ?_
  rintro e w1 ⟨v1, rfl, hn1⟩
  have HN1 := hid hn1
  obtain ⟨x1, y1, hv1, hc8, hc9⟩ := hn1.shape
  have h8 : (eightB n).length = 8 := rfl
  rw [h8] at hv1 hc8
  subst hv1
  obtain ⟨g, o, rfl⟩ : ∃ g o, x1 = some ⟨g, o, none⟩ := by
    obtain ⟨_, _, e, -, -, -, h⟩ := hn1.data.bat
    injection e with e1 _ _
    subst e1
    obtain ⟨g, o, e, -⟩ := h 0 (by rw [h8]; omega)
    exact ⟨g, o, e⟩
  have hb4 := hn1.data.bat.sub (lo := 4) (n := 4) (by rw [h8]; omega)
  rw [eight_high n (by omega)] at hb4
  have HB4 := hid hb4
  have i1 : ¬ y1 = 4 := by omega
  have hpt := refPart_any (b := highB n) (ao := some ⟨g, o + 4, none⟩) (cap := y1 - 4) hb4 (lo := 0) (hi := 4) (by omega) (by simp [highB]) (by simp [highB])
  rw [show (((highB n).drop 0).take (4 - 0)) = highB n from rfl] at hpt
  have HPT := hid hpt
  have i2 : (4 : Int) ≤ (y1 : Int) := by omega
  clear hn1 hb4 hpt hc8
  go_wp2_with fail
  refine HPT.out.mono ?_
  rintro e w2 ⟨v2, rfl, hn2⟩
  have HN2 := hid (hn2.rebase HN1.out.upd)
  obtain ⟨x2, y2, hv2, -, -⟩ := hn2.shape
  have h4 : (highB n).length = 4 := rfl
  rw [h4] at hv2
  subst hv2
  have HSE := hid (refSealed_any (HB4.out.keep hn2.upd) (by simp [highB]))
  clear hn2 h4
  go_wp2_with fail
  refine HSE.out.mono ?_
  rintro e w3 ⟨v3, rfl, hn3⟩
  obtain ⟨x3, y3, hv3, -, -⟩ := hn3.shape
  have h4 : (lowB (crc (highB n))).length = 4 := rfl
  obtain ⟨x4, L4, y4, w4, hr4, hn4⟩ := (HN2.out.keep hn3.upd).glue hn3.data.bat (by simp [highB, lowB])
  rw [h4] at hv3
  subst hv3
  have HR4 := hid hr4; have HN4 := hid hn4
  clear hn3 hr4 hn4 h4
  go_upto_region 5 with (at_builtin; refine wpList_append_run rfl _ _ _ rfl rfl rfl HR4.out ?_)
  obtain ⟨x5, L5, y5, w5, hr5, hn5⟩ := HN4.out.glue (HV.out.keep HN4.out.upd) (by simp [highB, lowB]; have := HNN.out; omega)
  rw [← HNN.out] at hr5
  have HR5 := hid hr5; have HN5 := hid hn5
  clear hr5 hn5
  go_upto_region 6 with (at_builtin; refine wpList_append_run rfl _ _ _ rfl rfl rfl HR5.out ?_)
  have hsb := refSealed_any (HV.out.keep HN5.out.upd) (by have := HNN.out; omega)
  rw [← HNN.out] at hsb
  have HSB := hid hsb
  clear hsb
  go_wp2_with fail
  refine HSB.out.mono ?_
  rintro e w6 ⟨v6, rfl, hn6⟩
  obtain ⟨x6, y6, hv6, -, -⟩ := hn6.shape
  have h4 : (lowB (crc b)).length = 4 := rfl
  obtain ⟨x7, L7, y7, w7, hr7, hn7⟩ := (HN5.out.keep hn6.upd).glue hn6.data.bat (by simp [highB, lowB]; have := HNN.out; omega)
  rw [h4] at hv6
  subst hv6
  have HR7 := hid hr7
  have HF := hid (show NewB w w7 (.slice x7 L7 y7) (frameB b) from by unfold frameB; rw [← HNN.out]; exact hn7)
  clear hn6 hr7 hn7 h4
  go_wp2_with (at_builtin; refine wpList_append_run rfl _ _ _ rfl rfl rfl HR7.out ?_)
  go_ret2
  exact ⟨_, rfl, HF.out⟩

end Go.Proofs.YtgaidmohdhaonaaGreatDoor

namespace Go.Proofs.YtgaidmohdhaonaaGreatDoor
set_option linter.unusedVariables false
set_option linter.unusedSimpArgs false
set_option linter.unnecessarySimpa false
set_option linter.unusedSectionVars false
open Go Go.RowKit

set_option maxRecDepth 100000 in
set_option maxHeartbeats 3200000 in
theorem refUints_any {w : World} {a n : Nat} {nums : List Int} (hnn : nums.length = n) (hn : n ≤ 1000) (ha : a < w.heap.size) (hc : ∀ j (hj : j < nums.length), w.cell? ⟨a, j, none⟩ = some (.int .i64 nums[j])) :
    Calls Tryz.prog 137 #[.slice (some ⟨a, 0, none⟩) n n] w fun e w' => ∃ v, e = .returned v ∧ NewB w w' v (uintsB nums) := by
  have HC := hid hc; have HNN := hid hnn
  clear hc hnn
  go_enter Tryz.func137, Tryz.ntmps137
  go_wp2
  go_loopw [3, 4] (fun bv iv wr => ∃ k : Nat, iv = .int .i64 k ∧ k ≤ n ∧ ∃ ao L cap, bv = .slice ao L cap ∧ NewB w wr (.slice ao L cap) (uintsB (nums.take k))) (fun _ iv _ => n - (intOf iv).toNat)
  case atStart => exact ⟨0, rfl, Nat.zero_le _, none, 0, 0, rfl, by simpa [uintsB] using NewB.nil w⟩
  case round =>
    obtain ⟨k, rfl, hk, ao, L, cap, rfl, hnew⟩ := hrel
    have HN := hid hnew
    clear hnew
    by_cases hlt : k < n
    · have hlt' : k < nums.length := by have := HNN.out; omega
      have hcell : wr.cell? ⟨a, k, none⟩ = some (.int .i64 nums[k]) := HN.out.upd.cell ha (HC.out k hlt')
      have haw : a < wr.heap.size := Nat.lt_of_lt_of_le ha HN.out.upd.size
      have HT := hid (show uintsB (nums.take (k + 1)) = uintsB (nums.take k) ++ uintB (nums[k] % 18446744073709551616).toNat from by rw [List.take_succ_eq_append_getElem hlt', uintsB_snoc])
      have htl := uintsB_len (nums.take k)
      have hkl : (nums.take k).length ≤ k := by simp; omega
      obtain ⟨y, hy⟩ : ∃ y, y = nums[k] := ⟨_, rfl⟩
      rw [← hy] at hcell HT
      have hxe : (((y % 18446744073709551616).toNat : Nat) : Int) = y % 18446744073709551616 := by omega
      have hul := uintB_len 9 (y % 18446744073709551616).toNat (by omega)
      have hu := refUint_any (w := wr) (n := (y % 18446744073709551616).toNat) (by omega)
      rw [hxe] at hu
      have HU := hid hu
      have HLEN := hid (show (uintsB (nums.take k)).length + (uintB (y % 18446744073709551616).toNat).length ≤ 140737488355328 from by omega)
      clear hy hxe hul hu htl hkl hlt'
      go_wp2_with fail
      refine HU.out.mono ?_
      rintro e w1 ⟨v1, rfl, hn1⟩
      obtain ⟨a2, L2, c2, w2, hr2, hn2⟩ := (HN.out.keep hn1.upd).glue hn1.data.bat HLEN.out
      obtain ⟨x1, y1, hv1, -, -⟩ := hn1.shape
      obtain ⟨l1, hl1⟩ : ∃ l1, l1 = (uintB (y % 18446744073709551616).toNat).length := ⟨_, rfl⟩
      rw [← hl1] at hv1
      subst hv1
      have HR2 := hid hr2; have HN2 := hid hn2
      clear hr2 hn2 hn1 hl1 hcell haw
      go_wp2_with (at_builtin; refine wpList_append_run rfl _ _ _ rfl rfl rfl HR2.out ?_)
      go_roundw
      case rel => exact ⟨k + 1, by simp, by omega, a2, L2, c2, rfl, by rw [HT.out]; exact HN2.out⟩
      case measure => simp [intOf]; omega
    · obtain rfl : k = n := by omega
      have HF := hid (show NewB w wr (.slice ao L cap) (uintsB nums) from by have h := HN.out; rw [← HNN.out, List.take_length] at h; exact h)
      go_wp2
      go_ret
      exact ⟨_, rfl, HF.out⟩

/-- Numbers in a new row. -/
theorem uints_row {W : World} (nums : List Int) (n : Nat) (hnn : nums.length = n) (hn : n ≤ 1000) (C : Array Value) (hC : C = (nums.map (Value.int .i64)).toArray) (a : Nat) (ha : a = W.heap.size) :
    Calls Tryz.prog 137 #[.slice (some ⟨a, 0, none⟩) n n] (W.alloc (.cells C 3)) fun e w' => ∃ x l y, e = .returned (.slice x l y) ∧ Hid (NewB W w' (.slice x l y) (uintsB nums)) := by
  subst ha
  have hrow := heap_alloc_new W (.cells C 3)
  refine (refUints_any hnn hn (lt_of_heap hrow) (fun j hj => ?_)).mono ?_
  · rw [cell_of_row _ _ j _ _ _ hrow, hC]
    simp [List.getElem?_eq_getElem hj]
  · rintro e w' ⟨v, rfl, hn2⟩
    obtain ⟨x, y, hv, -, -⟩ := hn2.shape
    exact ⟨x, _, y, by rw [hv], by rw [← hv]; exact hn2.rebase ((Upd.refl _ _).alloc _)⟩


/-- A row of bytes is no record. -/
theorem own_ty {w w1 w2 : World} {v s : Value} {bs : List UInt8} {j : Nat} {cs : Array Value} (h : NewB w w2 s bs) (hu : Upd (fun k => v.ownBlock = some k) w1 w2) (hr : w1.heap[j]? = some (.cells cs 48 (0, 0))) (hv : ¬ v.ownBlock = some j) (hs : s.ownBlock = some j) : False := by
  have h2 := hu.get hr hv
  rcases h.data with ⟨rfl, -⟩ | ⟨g, cap, cur, rfl, hg, -⟩
  · cases hs
  · simp only [Value.ownBlock, Option.some.injEq] at hs
    subst hs
    exact not_ty h2 (by decide) _ _ hg
/-- Bytes, told with their length. -/
theorem bytes10 {w : World} {v : Value} {b : List UInt8} (hv : BAt w v b) (hl : b.length ≤ 140737488351232) :
    Calls Tryz.prog 138 #[v] w fun e w' => ∃ x l y, e = .returned (.slice x l y) ∧ Hid (NewB w w' (.slice x l y) (bytesB b)) := by
  refine (refBytes_any hv hl).mono ?_
  rintro e w' ⟨v', rfl, hn⟩
  obtain ⟨x, y, hv, -, -⟩ := hn.shape
  exact ⟨x, _, y, by rw [hv], by rw [← hv]; exact hn⟩

set_option maxRecDepth 100000 in
set_option maxHeartbeats 3200000 in
theorem refEncode_bad {w : World} {v : Value} {x : VerA} (hv : VerAt w v x) (hl : ∀ r ∈ x.runs, r.first.length ≤ 140737488351232 ∧ r.last.length ≤ 140737488351232) (hb : okA x = false) :
    Calls Tryz.prog 83 #[v] w fun e w' => e = .returned (.tuple #[.slice none 0 0, .int .i64 101]) ∧ Upd (fun _ => False) w w' := by
  have HV := hid hv
  obtain ⟨s1, d1, s2, d2, rfl, -, -⟩ := hv
  have HU := hid ((Upd.refl (fun _ => False) w).alloc (.cells #[.int .i64 x.gen, .int .i64 x.flushed, .int .i64 x.next, .int .i64 x.low, .int .i64 x.clock, .slice s1 x.state.length d1, .slice s2 x.runs.length d2] 25))
  have HC := hid (refCheck10_any (HV.out.keep HU.out) hl)
  rw [show checkA x = 101 from by unfold checkA; rw [hb]; rfl] at HC
  clear hb hl
  go_enter Tryz.func83, Tryz.ntmps83
  go_wp2_with fail
  refine HC.out.mono ?_
  rintro e w2 ⟨rfl, hu2⟩
  have HU2 := hid (HU.out.trans hu2 (fun _ _ e => e))
  clear hu2
  go_wp2
  go_ret2
  exact ⟨rfl, HU2.out⟩

set_option maxRecDepth 100000 in
set_option maxHeartbeats 12800000 in
theorem refEncode_any {w : World} {v : Value} {x : VerA} (hv : VerAt w v x) (hb : okA x = true) :
    Calls Tryz.prog 83 #[v] w fun e w' => ∃ v', e = .returned (.tuple #[v', .int .i64 0]) ∧ NewB w w' v' (encodeB x) := by
  have HV := hid hv
  have HBL := hid (body_len hb)
  have HHO := hid (headA_of (okA_head hb))
  obtain ⟨s1, d1, s2, d2, rfl, hst, hrs⟩ := hv
  have HST := hid hst; have HRS := hid hrs
  have HU := hid ((Upd.refl (fun _ => False) w).alloc (.cells #[.int .i64 x.gen, .int .i64 x.flushed, .int .i64 x.next, .int .i64 x.low, .int .i64 x.clock, .slice s1 x.state.length d1, .slice s2 x.runs.length d2] 25))
  have HC := hid (refCheck10_any (HV.out.keep HU.out) (fun r hr => by have := HBL.out.2 r hr; omega))
  have HROW := hid (heap_alloc_new w (.cells #[.int .i64 x.gen, .int .i64 x.flushed, .int .i64 x.next, .int .i64 x.low, .int .i64 x.clock, .slice s1 x.state.length d1, .slice s2 x.runs.length d2] 25))
  rw [show checkA x = 0 from by unfold checkA; rw [hb]; rfl] at HC
  have HBY := hid (bytesB_len x.state (by have := HHO.out.2.1; omega))
  have HL5 := hid (uintsB_len [x.gen, x.flushed, x.next, x.low, x.clock])
  have HL1 := hid (uintsB_len [(x.runs.length : Int)])
  obtain ⟨p, hp⟩ : ∃ p, p = w.heap.size := ⟨_, rfl⟩
  rw [← hp] at HROW
  have HP := hid hp
  clear hb hp hst hrs
  go_enter Tryz.func83, Tryz.ntmps83
  go_wp2_with fail
  refine HC.out.mono ?_
  rintro e W1 ⟨rfl, hu2⟩
  rw [← HP.out]
  have HU1 := hid (HU.out.trans hu2 (fun _ _ e => e))
  have HR1 := hid (hu2.get HROW.out (fun e => e))
  have hpl : p < W1.heap.size := lt_of_heap HR1.out
  have v0 := cell_of_row W1 p 0 _ _ _ HR1.out; have v1 := cell_of_row W1 p 1 _ _ _ HR1.out; have v2 := cell_of_row W1 p 2 _ _ _ HR1.out; have v3 := cell_of_row W1 p 3 _ _ _ HR1.out; have v4 := cell_of_row W1 p 4 _ _ _ HR1.out
  clear hu2
  have HUI := hid (uints_row (W := W1) [x.gen, x.flushed, x.next, x.low, x.clock] 5 rfl (by omega) #[.int .i64 x.gen, .int .i64 x.flushed, .int .i64 x.next, .int .i64 x.low, .int .i64 x.clock] rfl W1.heap.size rfl)
  go_wp2_with fail
  refine HUI.out.mono ?_
  rintro e W2 ⟨x2, l2, y2, rfl, hn2⟩
  have HN2 := hid hn2.out
  have hr2 := hn2.out.upd.get HR1.out (fun e => e)
  have v5 := cell_of_row W2 p 5 _ _ _ hr2
  have hpl2 := lt_of_heap hr2
  have HB := hid (bytes10 (w := W2) (HST.out.keep (HU1.out.trans hn2.out.upd (fun _ _ e => e))) (by have := HHO.out.2.1; omega))
  clear hn2 hr2 v0 v1 v2 v3 v4 hpl
  go_wp2_with fail
  refine HB.out.mono ?_
  rintro e W3 ⟨x3, l3, y3, rfl, hn3⟩
  obtain ⟨x4, l4, y4, W4, hr4, hn4⟩ := (HN2.out.keep hn3.out.upd).glue hn3.out.data.bat (by have := HBY.out; have := HL5.out; have := HHO.out.2.1; simp at *; omega)
  have HR4 := hid hr4; have HN4 := hid hn4
  clear hn3 hr4 hn4 v5 hpl2
  go_upto_region 6 with (at_builtin; refine wpList_append_run rfl _ _ _ rfl rfl rfl HR4.out ?_)
  have hr4b := HN4.out.upd.get HR1.out (fun e => e)
  have v6 := cell_of_row W4 p 6 _ _ _ hr4b
  have hpl4 := lt_of_heap hr4b
  obtain ⟨a4, ha4⟩ : ∃ a4, a4 = W4.heap.size := ⟨_, rfl⟩
  have HUJ := hid (uints_row (W := W4) [(x.runs.length : Int)] 1 rfl (by omega) #[.int .i64 (x.runs.length : Int)] rfl a4 ha4)
  have HA4 := hid ha4
  clear hr4b ha4
  go_wp2_with fail
  rw [← HA4.out]
  refine HUJ.out.mono ?_
  rintro e W5 ⟨x5, l5, y5, rfl, hn5⟩
  obtain ⟨x6, l6, y6, W6, hr6, hn6⟩ := (HN4.out.keep hn5.out.upd).glue hn5.out.data.bat (by have := HBY.out; have := HL5.out; have := HL1.out; have := HHO.out.2.1; simp at *; omega)
  obtain ⟨PRE, hPRE⟩ : ∃ PRE, PRE = uintsB [x.gen, x.flushed, x.next, x.low, x.clock] ++ bytesB x.state ++ uintsB [(x.runs.length : Int)] := ⟨_, rfl⟩
  rw [← hPRE] at hn6
  have HPL := hid (show PRE.length ≤ 140000 from by rw [hPRE]; have := HBY.out; have := HL5.out; have := HL1.out; have := HHO.out.2.1; simp at *; omega)
  have HPRE := hid hPRE
  have HR6 := hid hr6; have HN6 := hid hn6
  clear hn5 hr6 hn6 v6 hpl4 hPRE
  go_upto_region 7 with (at_builtin; refine wpList_append_run rfl _ _ _ rfl rfl rfl HR6.out ?_)
  obtain ⟨n, hn⟩ : ∃ n, n = x.runs.length := ⟨_, rfl⟩
  have HNN := hid hn
  have hn64 : n ≤ 64 := by have := HHO.out.2.2; omega
  clear hn
  go_wp2
  go_loopw [5, 6] (fun bv i wr => ∃ k : Nat, i = .int .i64 k ∧ k ≤ n ∧ ∃ ao L cap, bv = .slice ao L cap ∧ NewB W1 wr (.slice ao L cap) (PRE ++ ((x.runs.take k).map metaB).flatten)) (fun _ i _ => n - (intOf i).toNat)
  case atStart => exact ⟨0, rfl, Nat.zero_le _, _, _, _, rfl, by simpa using HN6.out⟩
  case round =>
    obtain ⟨k, rfl, hk, ao, L, cap, rfl, hnw⟩ := hrel
    obtain ⟨wo, rfl⟩ : ∃ wo, wo = wr := ⟨_, rfl⟩
    have HNW := hid hnw
    have HML := hid (metas_len (x.runs.take k) (fun r hr => HBL.out.2 r (List.mem_of_mem_take hr)))
    have HKL := hid (show (x.runs.take k).length ≤ 64 from by simp; have := HHO.out.2.2; omega)
    have hrw := hnw.upd.get HR1.out (fun e => e)
    have v6 := cell_of_row wo p 6 _ _ _ hrw
    have hplw := lt_of_heap hrw
    rw [← HNN.out] at v6
    clear hnw
    by_cases hlt : k < n
    · have hlt' : k < x.runs.length := by have := HNN.out; omega
      obtain ⟨ao0, cap0, e, hc1, hc2, hcells⟩ := HRS.out
      obtain ⟨b, o, f1, c1, f2, c2, ha, hb, g0, g1, g2, g3, g4, g5, g6, g7, hB1, hB2⟩ := hcells k hlt'
      injection e with e1 e2 e3
      subst e1
      subst e3
      subst ha
      clear e2 hcells
      have HT1 := hid (show ((x.runs.take (k + 1)).map metaB).flatten = ((x.runs.take k).map metaB).flatten ++ metaB x.runs[k] from by rw [List.take_succ_eq_append_getElem hlt', List.map_append, List.flatten_append]; simp only [List.map_cons, List.map_nil, List.flatten_cons, List.flatten_nil, List.append_nil])
      have HLR := hid (HBL.out.2 _ (List.getElem_mem hlt'))
      obtain ⟨r, hr⟩ : ∃ r, r = x.runs[k] := ⟨_, rfl⟩
      rw [← hr] at g0 g1 g2 g3 g4 g5 g6 g7 hB1 hB2 HT1 HLR
      have HLF := hid (bytesB_len r.first (by have := HLR.out; omega)); have HLL := hid (bytesB_len r.last (by have := HLR.out; omega))
      have HL6 := hid (uintsB_len [r.num, r.count, r.index, r.low, r.clock, r.bytes])
      have HUW := hid (HU1.out.trans HNW.out.upd (fun _ _ e => e))
      have u0 := HUW.out.cell hb g0; have u1 := HUW.out.cell hb g1; have u2 := HUW.out.cell hb g2; have u3 := HUW.out.cell hb g3
      have u4 := HUW.out.cell hb g4; have u5 := HUW.out.cell hb g5; have u6 := HUW.out.cell hb g6; have u7 := HUW.out.cell hb g7
      have hbw : b < wo.heap.size := Nat.lt_of_lt_of_le hb HUW.out.size
      have HUR := hid ((Upd.refl (fun _ => False) wo).alloc (.cells #[.int .i64 r.num, .int .i64 r.count, .int .i64 r.index, .int .i64 r.low, .int .i64 r.clock, .int .i64 r.bytes, .slice f1 r.first.length c1, .slice f2 r.last.length c2] 48))
      have HROW8 := hid (heap_alloc_new wo (.cells #[.int .i64 r.num, .int .i64 r.count, .int .i64 r.index, .int .i64 r.low, .int .i64 r.clock, .int .i64 r.bytes, .slice f1 r.first.length c1, .slice f2 r.last.length c2] 48))
      have HB1' := hid hB1; have HB2' := hid hB2
      obtain ⟨b8, hb8⟩ : ∃ b8, b8 = wo.heap.size := ⟨_, rfl⟩
      rw [← hb8] at HROW8
      have HB8 := hid hb8
      have HU6 := hid (uints_row (W := wo.alloc (.cells #[.int .i64 r.num, .int .i64 r.count, .int .i64 r.index, .int .i64 r.low, .int .i64 r.clock, .int .i64 r.bytes, .slice f1 r.first.length c1, .slice f2 r.last.length c2] 48)) [r.num, r.count, r.index, r.low, r.clock, r.bytes] 6 rfl (by omega) #[.int .i64 r.num, .int .i64 r.count, .int .i64 r.index, .int .i64 r.low, .int .i64 r.clock, .int .i64 r.bytes] rfl (b8 + 1) (by rw [hb8]; simp))
      clear hB1 hB2 hr hb8 hc1 hc2
      go_wp2_with fail
      rw [← HB8.out]
      refine HU6.out.mono ?_
      rintro e V1 ⟨x7, l7, y7, rfl, hn7⟩
      have HUV1 := hid (HUR.out.trans hn7.out.upd (fun _ _ e => e))
      obtain ⟨x8, l8, y8, V2, hr8, hn8, hu8⟩ := (HNW.out.keep HUV1.out).glue2 hn7.out.data.bat (by have := HPL.out; have := HML.out; have := HKL.out; have := HL6.out; simp only [List.length_append, List.length_cons, List.length_nil] at *; omega)
      have hro1 := hn7.out.upd.get HROW8.out (fun e => e)
      obtain ⟨ACC, hACC⟩ : ∃ ACC, ACC = PRE ++ ((x.runs.take k).map metaB).flatten ++ uintsB [r.num, r.count, r.index, r.low, r.clock, r.bytes] := ⟨_, rfl⟩
      have HAL := hid (show ACC.length ≤ 300000 from by rw [hACC]; have := HPL.out; have := HML.out; have := HKL.out; have := HL6.out; simp only [List.length_append, List.length_cons, List.length_nil] at *; omega)
      rw [← hACC] at hn8
      have HACC := hid hACC
      have HR8 := hid hr8; have HN8 := hid hn8
      have HOWN := hid (show ∀ j, (Value.slice x8 l8 y8).ownBlock = some j → j ≠ b8 from fun j e hj => by subst hj; exact own_ty hn8 hu8 hro1 (fun e => by have h1 := HNW.out.lt j e; have h2 := HB8.out; omega) e)
      have HRO2 := hid (hu8.get hro1 (fun e => by have h1 := HNW.out.lt b8 e; have h2 := HB8.out; omega))
      clear hn7 hr8 hn8 hu8 hro1 hACC g0 g1 g2 g3 g4 g5 g6 g7 u0 u1 u2 u3 u4 u5 u6 u7 hb hbw v6 hplw hrw
      go_upto_region 12 with (at_builtin; refine wpList_append_run rfl _ _ _ rfl rfl rfl HR8.out ?_)
      have HBF := hid (bytes10 (w := V2) (HB1'.out.keep (HU1.out.trans HN8.out.upd (fun _ _ e => e))) (by have := HLR.out; omega))
      have z6 := cell_of_row V2 b8 6 _ _ _ HRO2.out
      have hz6 := lt_of_heap HRO2.out
      go_wp2_with fail
      refine HBF.out.mono ?_
      rintro e V3 ⟨x9, l9, y9, rfl, hn9⟩
      obtain ⟨xa, la, ya, V4, hra, hna, hua⟩ := (HN8.out.keep hn9.out.upd).glue2 hn9.out.data.bat (by have := HAL.out; have := HLF.out; have := HLR.out; omega)
      have HRO4 := hid (hua.get (hn9.out.upd.get HRO2.out (fun e => e)) (fun e => HOWN.out b8 e rfl))
      have HRA := hid hra; have HNA := hid hna
      clear hn9 hra hna hua z6 hz6
      go_upto_region 13 with (at_builtin; refine wpList_append_run rfl _ _ _ rfl rfl rfl HRA.out ?_)
      have HBL2 := hid (bytes10 (w := V4) (HB2'.out.keep (HU1.out.trans HNA.out.upd (fun _ _ e => e))) (by have := HLR.out; omega))
      have z7 := cell_of_row V4 b8 7 _ _ _ HRO4.out
      have hz7 := lt_of_heap HRO4.out
      go_wp2_with fail
      refine HBL2.out.mono ?_
      rintro e V5 ⟨xb, lb, yb, rfl, hnb⟩
      obtain ⟨xc, lc, yc, V6, hrc, hnc⟩ := (HNA.out.keep hnb.out.upd).glue hnb.out.data.bat (by rw [List.length_append]; have := HAL.out; have := HLF.out; have := HLL.out; have := HLR.out; omega)
      have HRC := hid hrc
      have HFIN := hid (show NewB W1 V6 (.slice xc lc yc) (PRE ++ ((x.runs.take (k + 1)).map metaB).flatten) from by
        have e : PRE ++ ((x.runs.take (k + 1)).map metaB).flatten = ACC ++ bytesB r.first ++ bytesB r.last := by rw [HT1.out, HACC.out]; unfold metaB; simp only [List.append_assoc]
        rw [e]; exact hnc)
      clear hnb hrc hnc z7 hz7
      go_wp2_with (at_builtin; refine wpList_append_run rfl _ _ _ rfl rfl rfl HRC.out ?_)
      go_roundw
      case rel => exact ⟨k + 1, by simp, by omega, xc, lc, yc, rfl, HFIN.out⟩
      case measure => simp [intOf]; omega
    · obtain rfl : k = n := by omega
      have HBODY := hid (show PRE ++ ((x.runs.take k).map metaB).flatten = bodyB x from by rw [HPRE.out, HNN.out, List.take_length]; unfold bodyB; simp only [List.append_assoc])
      rw [HBODY.out] at HNW
      have HFR := hid (refFrame_any HNW.out.data.bat (by have := HBL.out.1; omega))
      go_wp2_with fail
      refine HFR.out.mono ?_
      rintro e W7 ⟨v7, rfl, hn7⟩
      have hu7 : Upd (fun _ => False) w W7 := (HU1.out.trans HNW.out.upd (fun _ _ e => e)).trans hn7.upd (fun _ _ e => e)
      have hfl : (frameB (bodyB x)).length ≤ 400000 := by rw [frameB_length]; have := HBL.out.1; omega
      have hf0 : 0 < (frameB (bodyB x)).length := by rw [frameB_length]; omega
      obtain ⟨ao8, L8, cap8, w8, hr8, hn8⟩ := grow_lit hu7 magicB (8, 9) ((hn7.data.bat).keep ((Upd.refl (fun _ => False) W7).alloc _)) hf0 (by simp only [magicB, List.length_cons, List.length_nil]; omega)
      obtain ⟨x7, y7, hv7, -, -⟩ := hn7.shape
      obtain ⟨L7, hL7⟩ : ∃ L, L = (frameB (bodyB x)).length := ⟨_, rfl⟩
      rw [← hL7] at hv7
      subst hv7
      have hr8' : (Builtin.append_ #[22, 22] 22 #[.slice (some ⟨W7.heap.size, 0, none⟩) 8 8, .slice x7 L7 y7]).run Tryz.prog (W7.alloc (.cells #[.int .u8 83, .int .u8 84, .int .u8 82, .int .u8 65, .int .u8 84, .int .u8 65, .int .u8 45, .int .u8 77] 5 (8, 9))) = .ok (.slice ao8 L8 cap8) w8 := hr8
      have HR8 := hid hr8'
      have HN8 := hid (show NewB w w8 (.slice ao8 L8 cap8) (encodeB x) from hn8)
      have kc := fun (w : World) (C : Array Value) (n c : Nat) => Lib.run_convert_bytes_const (P := Tryz.prog) w 22 5 C n c Tryz.underlying22 Tryz.underlying5
      clear hr8 hr8' hn8 hf0 hfl hL7 hn7 hu7 v6 hplw hrw
      go_wp2_with (at_builtin; refine wpList_append_run rfl _ _ _ rfl rfl rfl HR8.out ?_)
      go_ret2
      exact ⟨_, rfl, HN8.out⟩

end Go.Proofs.YtgaidmohdhaonaaGreatDoor
