/-
  stratalaw10.wide; what a fresh disk makes of a first version (plain).
  stratalaw10.started.
-/
import Derived.Test.YtgaidmohdhaonaaGreatDoorYT
import Derived.Test.YtgaidmohdhaonaaGreatDoorYK
import Derived.Test.YtgaidmohdhaonaaGreatDoorYI
namespace Go.Proofs.YtgaidmohdhaonaaGreatDoor
set_option linter.unusedVariables false
set_option linter.unusedSimpArgs false
set_option linter.unnecessarySimpa false
set_option linter.unusedSectionVars false
open Go Go.RowKit

abbrev tailB : List UInt8 := [201, 202, 203, 204, 205]

set_option maxRecDepth 100000 in
set_option maxHeartbeats 1600000 in
theorem wide_any {w : World} {v : Value} {b : List UInt8} (hv : BAt w v b) (hl : b.length ≤ 140737488351232) :
    Calls Tryz.prog 163 #[v] w fun e w' => ∃ g c, e = .returned (.tuple #[.slice (some ⟨g, 0, none⟩) b.length c, .slice (some ⟨g, 0, none⟩) (b.length + 5) c]) ∧ NewB w w' (.slice (some ⟨g, 0, none⟩) (b.length + 5) c) (b ++ tailB) ∧ BAt w' (.slice (some ⟨g, 0, none⟩) b.length c) b := by
  have HV := hid hv
  obtain ⟨ao, cap, rfl, -, -, -, -⟩ := hv
  have hp := refPart_any HV.out (lo := 0) (hi := b.length) (by omega) (by omega) hl
  rw [List.drop_zero, Nat.sub_zero, List.take_length] at hp
  have HP := hid hp
  clear hp
  obtain ⟨n, hn⟩ : ∃ n, n = b.length := ⟨_, rfl⟩
  rw [← hn] at HP hl ⊢
  have HN := hid hn
  clear hn
  go_enter Tryz.func163, Tryz.ntmps163
  go_wp2_with fail
  refine HP.out.mono ?_
  rintro e w1 ⟨v1, rfl, hn1⟩
  obtain ⟨a1, c1, e1, -, -⟩ := hn1.shape
  rw [← HN.out] at e1
  subst e1
  obtain ⟨v2, w2, hr, hn2⟩ := hn1.push tailB (by have := HN.out; simp; omega) 22
  have HR : Hid ((Builtin.append_ #[22, 22] 22 #[.slice a1 n c1, .slice (some ⟨w1.heap.size, 0, none⟩) 5 5]).run Tryz.prog (w1.alloc (.cells #[.int .u8 201, .int .u8 202, .int .u8 203, .int .u8 204, .int .u8 205] 5)) = .ok v2 w2) := hid hr
  obtain ⟨g, c2, rfl, hg1, hg2⟩ : ∃ g c, v2 = .slice (some ⟨g, 0, none⟩) (n + 5) c ∧ n + 5 ≤ c ∧ c ≤ 9223372036854775807 := by
    rcases hn2.data with ⟨-, h⟩ | ⟨g, c, cur, e, -, h1, -, h2, -⟩
    · simp at h
    · refine ⟨g, c, ?_, ?_, ?_⟩
      · rw [e, HN.out]; simp
      · have := HN.out; simp at h1; omega
      · simpa [maxLen] using h2
  have HN2 := hid hn2
  clear hr hn1 hn2
  have hc0 : ¬ c2 = 0 := by omega
  have hci : (n : Int) ≤ (c2 : Int) := by omega
  go_wp2_with (at_builtin; refine wpList_append_run rfl _ _ _ rfl rfl rfl HR.out ?_)
  go_ret2
  refine ⟨g, c2, rfl, HN2.out, ?_⟩
  have hb := HN2.out.data.bat
  rw [show n + 5 = (b ++ tailB).length from by rw [HN.out]; simp] at hb
  have hs := hb.sub (lo := 0) (n := n) (by rw [HN.out]; simp)
  rw [Nat.add_zero, Nat.sub_zero, List.drop_zero, List.take_left' HN.out.symm] at hs
  exact hs

abbrev firstA : VerA := ⟨1, 0, 1, 0, 1, [], []⟩
abbrev aDot : ByteArray := { data := #[97, 46] }

theorem first_swap : (swapP (newA 4096) aDot firstA).1 = 0 := by kernel_rfl
theorem first_load : (loadP (swapP (newA 4096) aDot firstA).2 aDot).1 = (some firstA, 0) := by kernel_rfl

end Go.Proofs.YtgaidmohdhaonaaGreatDoor

namespace Go.Proofs.YtgaidmohdhaonaaGreatDoor
set_option linter.unusedVariables false
set_option linter.unusedSimpArgs false
set_option linter.unnecessarySimpa false
set_option linter.unusedSectionVars false
open Go Go.RowKit

theorem firstAt (w : World) : VerAt w (.agg (verC 1 0 1 0 1 (.slice none 0 0) (.slice none 0 0))) firstA :=
  ⟨none, 0, none, 0, rfl, ⟨none, 0, rfl, by decide, by decide, fun _ => ⟨rfl, rfl⟩, fun j hj => absurd hj (by simp)⟩, ⟨none, 0, rfl, by decide, by decide, fun k hk => absurd hk (by simp)⟩⟩

set_option maxRecDepth 100000 in
set_option maxHeartbeats 3200000 in
theorem started_any {w : World} (hT : TabIn w) :
    Calls Tryz.prog 32 #[] w fun e w' => e = .returned (.bool true) ∧ Upd (fun _ => False) w w' := by
  have HT := hid hT
  have HNW := hid (new_yes w 4096 (by omega))
  clear hT
  go_enter Tryz.func32, Tryz.ntmps32
  go_wp2_with fail
  refine HNW.out.mono ?_
  rintro e w1 ⟨s, rfl, hs, habs, hblk, hu⟩
  have HS := hid hs; have HABS := hid habs; have HBLK := hid hblk; have HU := hid hu
  have HT1 := hid (HT.out.keep hu)
  have H0 := hid (show 0 ∉ s.blocks from fun e => by have := hblk 0 e; have := HT.out.1; omega)
  clear hs habs hblk hu
  go_wp2_with fail
  refine (lawNum_any _ _ (by omega)).mono ?_
  rintro e W ⟨rfl, hww⟩
  obtain rfl := hww.symm
  go_wp2_with fail
  refine (lawFirst_any _).mono ?_
  rintro e w2 ⟨rfl, hu2⟩
  have HS2 := hid (HS.out.upd hu2 (fun _ _ e => e))
  have HST2 := hid (Step.of_upd HS.out hu2)
  have HT2 := hid (HT1.out.keep hu2)
  clear hu2
  have HSW := hid (swap_any HT2.out HS2.out H0.out aDot (by decide) (firstAt w2) (by simp))
  rw [HABS.out, first_swap] at HSW
  go_wp2_with fail
  refine HSW.out.mono ?_
  rintro e w3 ⟨rfl, s3, hst3, habs3⟩
  have HST3 := hid (HST2.out.trans hst3)
  have HP3 := hid hst3.p
  have HLT := hid (show 0 < w2.heap.size from HT2.out.1)
  have HLO := hid (load_any (HT2.out.upd hst3.upd H0.out) hst3.ins (hst3.zero H0.out HLT.out) aDot (by decide))
  rw [habs3, first_load, HP3.out] at HLO
  have HT3 := hid (HT2.out.upd hst3.upd H0.out)
  have HUW3 := hid (show Upd (fun _ => False) w w3 from HU.out.trans HST3.out.upd (fun k hk e => by have := HBLK.out k e; omega))
  have HF3 := hid (show ∀ k ∈ s3.blocks, w.heap.size ≤ k from fun k e => (HST3.out.foot k e).elim (HBLK.out k) (fun h => Nat.le_trans HU.out.size h))
  clear hst3 habs3
  go_wp2_with fail
  refine HLO.out.mono ?_
  rintro e w4 ⟨⟨v, rfl, hown⟩, s4, hst4, -⟩
  have HUW4 := hid (show Upd (fun _ => False) w w4 from HUW3.out.trans hst4.upd (fun k hk e => by have := HF3.out k e; omega))
  have hat := hown.at
  obtain ⟨t1, d1, t2, d2, rfl, -, -⟩ := hat
  have HVA := hid (show VerAt w4 (.agg #[.int .i64 1, .int .i64 0, .int .i64 1, .int .i64 0, .int .i64 1, .slice t1 0 d1, .slice t2 0 d2]) firstA from hown.at)
  clear hown hst4
  go_upto_region 6 with fail
  have hrow := heap_alloc_new w4 (.cells #[.int .i64 1, .int .i64 0, .int .i64 1, .int .i64 0, .int .i64 1, .slice t1 0 d1, .slice t2 0 d2] 25)
  have hu5 := (Upd.refl (fun _ => False) w4).alloc (.cells #[.int .i64 1, .int .i64 0, .int .i64 1, .int .i64 0, .int .i64 1, .slice t1 0 d1, .slice t2 0 d2] 25)
  have HU5 := hid (HUW4.out.trans hu5 (fun _ _ e => e))
  have HVA5 := hid (HVA.out.keep hu5)
  obtain ⟨pb, hpb⟩ : ∃ p, p = w4.heap.size := ⟨_, rfl⟩
  rw [← hpb] at hrow ⊢
  have HROW := hid hrow
  generalize w4.alloc (.cells #[.int .i64 1, .int .i64 0, .int .i64 1, .int .i64 0, .int .i64 1, .slice t1 0 d1, .slice t2 0 d2] 25) = w5 at HU5 HVA5 HROW ⊢
  clear hrow hu5 hpb HVA HUW4
  have HROWD := hid (show w5.drew.heap[pb]? = some (.cells #[.int .i64 1, .int .i64 0, .int .i64 1, .int .i64 0, .int .i64 1, .slice t1 0 d1, .slice t2 0 d2] 25 (0, 0)) from HROW.out)
  have hHeld : w5.drew.heap[pb]? = some (.cells #[.int .i64 1, .int .i64 0, .int .i64 1, .int .i64 0, .int .i64 1, .slice t1 0 d1, .slice t2 0 d2] 25 (0, 0)) := HROW.out
  refine wp_region_l (fun W => W.heap[pb]? = some (.cells #[.int .i64 1, .int .i64 0, .int .i64 1, .int .i64 0, .int .i64 1, .slice t1 0 d1, .slice t2 0 d2] 25 (0, 0))) 16 17 rfl (by kernel_rfl) ?_
  refine wpAnyL_one 0 rfl (by kernel_rfl) (fun K hK => ?_)
  go_simp
  refine hK.out _ _ (fun _ => hHeld) ?_
  clear hK K
  (try simp only [Act.put, List.setIfInBounds_toArray, List.set_cons_zero, List.set_cons_succ])
  refine wpAnyL_one 1 rfl (by kernel_rfl) (fun K hK => ?_)
  go_simp
  go_at_call 13
  refine (lawNum_any _ _ (by omega)).mono ?_
  rintro e W ⟨rfl, hww⟩
  obtain rfl := hww.symm
  refine hK.out _ _ (fun _ => hHeld) ?_
  clear hK K
  (try simp only [Act.put, List.setIfInBounds_toArray, List.set_cons_zero, List.set_cons_succ])
  refine wpAnyL_one 2 rfl (by kernel_rfl) (fun K hK => ?_)
  go_simp
  refine hK.out _ _ (fun _ => hHeld) ?_
  clear hK K
  (try simp only [Act.put, List.setIfInBounds_toArray, List.set_cons_zero, List.set_cons_succ])
  refine wpAnyL_one 3 rfl (by kernel_rfl) (fun K hK => ?_)
  go_simp
  refine hK.out _ _ (fun _ => hHeld) ?_
  clear hK K
  (try simp only [Act.put, List.setIfInBounds_toArray, List.set_cons_zero, List.set_cons_succ])
  refine wpAnyL_one 4 rfl (by kernel_rfl) (fun K hK => ?_)
  go_simp
  refine hK.out _ _ (fun _ => hHeld) ?_
  clear hK K
  (try simp only [Act.put, List.setIfInBounds_toArray, List.set_cons_zero, List.set_cons_succ])
  refine wpAnyL_one 5 rfl (by kernel_rfl) (fun K hK => ?_)
  go_simp
  refine hK.out _ _ (fun _ => hHeld) ?_
  clear hK K
  (try simp only [Act.put, List.setIfInBounds_toArray, List.set_cons_zero, List.set_cons_succ])
  refine wpAnyL_one 6 rfl (by kernel_rfl) (fun K hK => ?_)
  go_simp
  refine hK.out _ _ (fun _ => hHeld) ?_
  clear hK K
  (try simp only [Act.put, List.setIfInBounds_toArray, List.set_cons_zero, List.set_cons_succ])
  refine wpAnyL_one 7 rfl (by kernel_rfl) (fun K hK => ?_)
  go_simp
  refine hK.out _ _ (fun _ => hHeld) ?_
  clear hK K
  (try simp only [Act.put, List.setIfInBounds_toArray, List.set_cons_zero, List.set_cons_succ])
  refine wpAnyL_one 8 rfl (by kernel_rfl) (fun K hK => ?_)
  go_simp
  go_at_call 13
  refine (lawNum_any _ _ (by omega)).mono ?_
  rintro e W ⟨rfl, hww⟩
  obtain rfl := hww.symm
  refine hK.out _ _ (fun _ => hHeld) ?_
  clear hK K
  (try simp only [Act.put, List.setIfInBounds_toArray, List.set_cons_zero, List.set_cons_succ])
  refine wpAnyL_one 9 rfl (by kernel_rfl) (fun K hK => ?_)
  go_simp
  refine hK.out _ _ (fun _ => hHeld) ?_
  clear hK K
  (try simp only [Act.put, List.setIfInBounds_toArray, List.set_cons_zero, List.set_cons_succ])
  refine wpAnyL_one 10 rfl (by kernel_rfl) (fun K hK => ?_)
  go_simp
  refine hK.out _ _ (fun _ => hHeld) ?_
  clear hK K
  (try simp only [Act.put, List.setIfInBounds_toArray, List.set_cons_zero, List.set_cons_succ])
  refine wpAnyL_one 11 rfl (by kernel_rfl) (fun K hK => ?_)
  go_simp
  refine hK.out _ _ (fun _ => hHeld) ?_
  clear hK K
  (try simp only [Act.put, List.setIfInBounds_toArray, List.set_cons_zero, List.set_cons_succ])
  refine' wpAnyL_take 12 [16] (v := _) rfl (by kernel_rfl) (by kernel_rfl) (by kernel_rfl) (by kernel_rfl) (by simp) (fun _ _ _ h => h) (Or.inl ⟨by rfl, ?hy12⟩) (by assumption) ?rest12
  case hy12 => (intro wS hSw; obtain ⟨⟨r0, r1, r2, r3, r4, r5, r6⟩, -, -⟩ := verCells hSw; go_simp; (try with_reducible rfl))
  (try simp only [Act.put, List.setIfInBounds_toArray, List.set_cons_zero, List.set_cons_succ])
  refine wpAnyL_one 13 rfl (by kernel_rfl) (fun K hK => ?_)
  go_simp
  go_at_call 11
  refine (lawFirst_any _).mono ?_
  rintro e w6 ⟨rfl, hu6⟩
  have hHeld6 := hu6.get hHeld (fun e => e)
  have HVA6 := hid ((HVA5.out.keep (Upd.refl (fun _ => False) w5).drew).keep hu6)
  have HU6 := hid (HU5.out.drew.trans hu6 (fun _ _ e => e))
  clear hu6
  refine hK.out _ _ (fun _ => hHeld6) ?_
  clear hK K
  (try simp only [Act.put, List.setIfInBounds_toArray, List.set_cons_zero, List.set_cons_succ])
  refine wpAnyL_one 14 rfl (by kernel_rfl) (fun K hK => ?_)
  go_simp
  go_at_call 24
  refine (sameVer_any HVA6.out (firstAt w6) (by decide)).mono ?_
  rintro e w7 ⟨rfl, hu7⟩
  have hHeld7 := hu7.get hHeld6 (fun e => e)
  have HU7 := hid (HU6.out.trans hu7 (fun _ _ e => e))
  rw [show sameVerB firstA firstA = true from sameVerB_iff.2 rfl]
  clear hu7
  refine hK.out _ _ (fun _ => hHeld7) ?_
  clear hK K
  (try simp only [Act.put, List.setIfInBounds_toArray, List.set_cons_zero, List.set_cons_succ])
  refine wpAnyL_one 15 rfl (by kernel_rfl) (fun K hK => ?_)
  go_simp
  refine hK.out _ _ (fun _ => hHeld7) ?_
  clear hK K
  (try simp only [Act.put, List.setIfInBounds_toArray, List.set_cons_zero, List.set_cons_succ])
  refine wpAnyL_one 16 rfl (by kernel_rfl) (fun K hK => ?_)
  go_simp
  refine hK.out _ _ (fun _ => hHeld7) ?_
  clear hK K
  (try simp only [Act.put, List.setIfInBounds_toArray, List.set_cons_zero, List.set_cons_succ])
  refine wpAnyL_done (by kernel_rfl) ?_ _
  go_wp2
  go_ret
  exact ⟨rfl, HU7.out⟩

end Go.Proofs.YtgaidmohdhaonaaGreatDoor
