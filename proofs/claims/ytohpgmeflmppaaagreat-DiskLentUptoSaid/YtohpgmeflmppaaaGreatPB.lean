/-
  tells, walked: Free, Capacity, Down; acts, walked: Arm.
  acts, walked: Arm.
  tells, walked: Read.
  sameNames, walked, of lists that are the same.
  tells, walked: a kind that it does not know.
-/
import Derived.Test.YtohpgmeflmppaaaGreatGQ
namespace Go.Proofs.YtohpgmeflmppaaaGreat
set_option linter.unusedVariables false
set_option linter.unusedSimpArgs false
set_option linter.unnecessarySimpa false
set_option linter.unusedSectionVars false
open Go Go.RowKit

set_option maxRecDepth 100000 in
set_option maxHeartbeats 1600000 in
theorem tells_free {w0 w : World} {S : WS} {o : OpI} {i : Nat} (hw : WOn w0 w S) (hi : i < S.ds.length) (hi' : i < S.rs.length) (ho : OpShapes o) (hk : o.kind = 9) :
    Calls Tryz.prog 46 #[.pointer (some ⟨S.p, 0, none⟩), .agg o.cells, ptrD S.ds[i], ptrR S.rs[i]] w fun e w' => Acted w0 w S e w' := by
  obtain ⟨ba, bc, ca, cl, cc, fa, fl, fc, hb1, hc1, hf1⟩ := ho.get
  have hcells : o.cells = #[.int .i64 9, .int .i64 o.obj, .string o.name, .string o.dest, .slice ba o.bs.length bc, .int .i64 o.pos, .int .i64 o.n, .slice ca cl cc, .slice fa fl fc] := by unfold OpI.cells; rw [hk, hb1, hc1, hf1]
  rw [hcells]
  obtain ⟨hal, hso⟩ := hw.pair i hi hi'
  have hcr : S.ds[i].cap = S.rs[i].room := hal.cap
  have hus : S.ds[i].used = usedR S.rs[i].F := by rw [used_abs, sum_perm hal.files]; exact usedR_abs _
  have HD := hid (show ∀ W, Upd (fun _ => False) w W → Calls Tryz.prog 21 #[.pointer (some ⟨S.ds[i].p, 0, none⟩)] W fun e W' => e = .returned (.int .i64 ((S.rs[i].room - usedR S.rs[i].F : Nat) : Int)) ∧ ∃ q, W' = W.drewN q from fun W hW => by
    refine (free_any ((hw.mem.keep hW).dsIn i hi)).mono ?_
    rintro e W' ⟨rfl, hh⟩
    have hrm := (hw.mem.dsIn i hi).room
    exact ⟨by rw [← hcr, ← hus], hh⟩)
  have HR := hid (show ∀ W, Upd (fun _ => False) w W → Calls Tryz.prog 82 #[.pointer (some ⟨S.rs[i].p, 0, none⟩)] W fun e W' => e = .returned (.int .i64 ((S.rs[i].room - usedR S.rs[i].F : Nat) : Int)) ∧ ∃ q, W' = W.drewN q from fun W hW => refFree_any ((hw.mem.keep hW).rsIn i hi'))
  have HW := hid hw
  unfold ptrD ptrR
  obtain ⟨dp, hdp⟩ : ∃ dp, dp = S.ds[i].p := ⟨_, rfl⟩
  obtain ⟨rp, hrp⟩ : ∃ rp, rp = S.rs[i].p := ⟨_, rfl⟩
  obtain ⟨c, hc⟩ : ∃ c : Int, c = ((S.rs[i].room - usedR S.rs[i].F : Nat) : Int) := ⟨_, rfl⟩
  rw [← hdp, ← hc] at HD
  rw [← hrp, ← hc] at HR
  rw [← hdp, ← hrp]
  clear hw ho hb1 hc1 hf1 hcells hdp hrp hc hk hal hso hcr hus
  go_enter Tryz.func46, Tryz.ntmps46
  go_wp2_with fail
  obtain ⟨wb, hwb⟩ : ∃ wb, wb = w.alloc (.cells #[.int .i64 9, .int .i64 o.obj, .string o.name, .string o.dest, .slice ba o.bs.length bc, .int .i64 o.pos, .int .i64 o.n, .slice ca cl cc, .slice fa fl fc] 42) := ⟨_, rfl⟩
  rw [← hwb]
  have hub : Upd (fun _ => False) w wb := by rw [hwb]; exact (Upd.refl _ _).alloc _
  have HUB := hid hub
  clear hwb hub
  refine (HD.out _ HUB.out).mono ?_
  rintro e w2 ⟨rfl, q, hq⟩
  have HU2 := hid (show Upd (fun _ => False) w w2 by rw [hq]; exact HUB.out.drewN q)
  clear hq
  go_wp2_with fail
  refine (HR.out _ HU2.out).mono ?_
  rintro e w3 ⟨rfl, q3, hq3⟩
  have HU3 := hid (show Upd (fun _ => False) w w3 by rw [hq3]; exact HU2.out.drewN q3)
  clear hq3
  go_wp2
  go_ret
  exact ⟨by first | rfl | simp, _, HW.out.keep HU3.out, rfl, rfl, rfl, id, Turn.keep _ _ HU3.out⟩

set_option maxRecDepth 100000 in
set_option maxHeartbeats 1600000 in
theorem tells_capacity {w0 w : World} {S : WS} {o : OpI} {i : Nat} (hw : WOn w0 w S) (hi : i < S.ds.length) (hi' : i < S.rs.length) (ho : OpShapes o) (hk : o.kind = 10) :
    Calls Tryz.prog 46 #[.pointer (some ⟨S.p, 0, none⟩), .agg o.cells, ptrD S.ds[i], ptrR S.rs[i]] w fun e w' => Acted w0 w S e w' := by
  obtain ⟨ba, bc, ca, cl, cc, fa, fl, fc, hb1, hc1, hf1⟩ := ho.get
  have hcells : o.cells = #[.int .i64 10, .int .i64 o.obj, .string o.name, .string o.dest, .slice ba o.bs.length bc, .int .i64 o.pos, .int .i64 o.n, .slice ca cl cc, .slice fa fl fc] := by unfold OpI.cells; rw [hk, hb1, hc1, hf1]
  rw [hcells]
  obtain ⟨hal, hso⟩ := hw.pair i hi hi'
  have HD := hid (show ∀ W, Upd (fun _ => False) w W → Calls Tryz.prog 20 #[.pointer (some ⟨S.ds[i].p, 0, none⟩)] W fun e W' => e = .returned (.int .i64 (S.rs[i].room : Int)) ∧ W' = W from fun W hW => by
    refine (capacity_any ((hw.mem.keep hW).dsIn i hi)).mono ?_
    rintro e W' ⟨rfl, rfl⟩
    exact ⟨by rw [show S.ds[i].cap = S.rs[i].room from hal.cap], rfl⟩)
  have HC := hid (show ∀ W, Upd (fun _ => False) w W → W.cell? ⟨S.rs[i].p, 0, none⟩ = some (.int .i64 (S.rs[i].room : Int)) ∧ S.rs[i].p < W.heap.size from fun W hW => ⟨((hw.mem.keep hW).rsIn i hi').cell 0, ((hw.mem.keep hW).rsIn i hi').plt⟩)
  have HW := hid hw
  unfold ptrD ptrR
  obtain ⟨dp, hdp⟩ : ∃ dp, dp = S.ds[i].p := ⟨_, rfl⟩
  obtain ⟨rp, hrp⟩ : ∃ rp, rp = S.rs[i].p := ⟨_, rfl⟩
  obtain ⟨c, hc⟩ : ∃ c : Value, c = .int .i64 (S.rs[i].room : Int) := ⟨_, rfl⟩
  rw [← hdp] at HD
  rw [← hrp] at HC
  rw [← hdp, ← hrp]
  clear hw ho hb1 hc1 hf1 hcells hdp hrp hc hk hal hso
  go_enter Tryz.func46, Tryz.ntmps46
  go_wp2_with fail
  obtain ⟨wb, hwb⟩ : ∃ wb, wb = w.alloc (.cells #[.int .i64 10, .int .i64 o.obj, .string o.name, .string o.dest, .slice ba o.bs.length bc, .int .i64 o.pos, .int .i64 o.n, .slice ca cl cc, .slice fa fl fc] 42) := ⟨_, rfl⟩
  rw [← hwb]
  have hub : Upd (fun _ => False) w wb := by rw [hwb]; exact (Upd.refl _ _).alloc _
  have HUB := hid hub
  obtain ⟨c0, hrl⟩ := HC.out wb hub
  clear hwb hub
  go_quiet ((go_at_call 20; exact Calls.quiet_of_same (HD.out _ (by first | exact HUB.out | exact HUB.out.drew | exact HUB.out.drewN _))))
  go_wp2
  go_ret
  exact ⟨by first | rfl | simp, _, HW.out.keep (HUB.out.drewN _), rfl, rfl, rfl, id, Turn.keep _ _ (HUB.out.drewN _)⟩

set_option maxRecDepth 100000 in
set_option maxHeartbeats 1600000 in
theorem tells_down {w0 w : World} {S : WS} {o : OpI} {i : Nat} (hw : WOn w0 w S) (hi : i < S.ds.length) (hi' : i < S.rs.length) (ho : OpShapes o) (hk : o.kind = 12) :
    Calls Tryz.prog 46 #[.pointer (some ⟨S.p, 0, none⟩), .agg o.cells, ptrD S.ds[i], ptrR S.rs[i]] w fun e w' => Acted w0 w S e w' := by
  obtain ⟨ba, bc, ca, cl, cc, fa, fl, fc, hb1, hc1, hf1⟩ := ho.get
  have hcells : o.cells = #[.int .i64 12, .int .i64 o.obj, .string o.name, .string o.dest, .slice ba o.bs.length bc, .int .i64 o.pos, .int .i64 o.n, .slice ca cl cc, .slice fa fl fc] := by unfold OpI.cells; rw [hk, hb1, hc1, hf1]
  rw [hcells]
  obtain ⟨hal, hso⟩ := hw.pair i hi hi'
  have HD := hid (show ∀ W, Upd (fun _ => False) w W → Calls Tryz.prog 83 #[.pointer (some ⟨S.ds[i].p, 0, none⟩)] W fun e W' => e = .returned (.bool S.rs[i].off) ∧ W' = W from fun W hW => by
    refine (down_any ((hw.mem.keep hW).dsIn i hi)).mono ?_
    rintro e W' ⟨rfl, rfl⟩
    exact ⟨by rw [show S.ds[i].down = S.rs[i].off from hal.down], rfl⟩)
  have HC := hid (show ∀ W, Upd (fun _ => False) w W → W.cell? ⟨S.rs[i].p, 2, none⟩ = some (.bool S.rs[i].off) ∧ S.rs[i].p < W.heap.size from fun W hW => ⟨((hw.mem.keep hW).rsIn i hi').cell 2, ((hw.mem.keep hW).rsIn i hi').plt⟩)
  have HW := hid hw
  unfold ptrD ptrR
  obtain ⟨dp, hdp⟩ : ∃ dp, dp = S.ds[i].p := ⟨_, rfl⟩
  obtain ⟨rp, hrp⟩ : ∃ rp, rp = S.rs[i].p := ⟨_, rfl⟩
  obtain ⟨c, hc⟩ : ∃ c : Value, c = .bool S.rs[i].off := ⟨_, rfl⟩
  rw [← hdp] at HD
  rw [← hrp] at HC
  rw [← hdp, ← hrp]
  clear hw ho hb1 hc1 hf1 hcells hdp hrp hc hk hal hso
  go_enter Tryz.func46, Tryz.ntmps46
  go_wp2_with fail
  obtain ⟨wb, hwb⟩ : ∃ wb, wb = w.alloc (.cells #[.int .i64 12, .int .i64 o.obj, .string o.name, .string o.dest, .slice ba o.bs.length bc, .int .i64 o.pos, .int .i64 o.n, .slice ca cl cc, .slice fa fl fc] 42) := ⟨_, rfl⟩
  rw [← hwb]
  have hub : Upd (fun _ => False) w wb := by rw [hwb]; exact (Upd.refl _ _).alloc _
  have HUB := hid hub
  obtain ⟨c0, hrl⟩ := HC.out wb hub
  clear hwb hub
  go_quiet ((go_at_call 83; exact Calls.quiet_of_same (HD.out _ (by first | exact HUB.out | exact HUB.out.drew | exact HUB.out.drewN _))))
  go_wp2
  go_ret
  exact ⟨by first | rfl | simp, _, HW.out.keep (HUB.out.drewN _), rfl, rfl, rfl, id, Turn.keep _ _ (HUB.out.drewN _)⟩

end Go.Proofs.YtohpgmeflmppaaaGreat

namespace Go.Proofs.YtohpgmeflmppaaaGreat
set_option linter.unusedVariables false
set_option linter.unusedSimpArgs false
set_option linter.unnecessarySimpa false
set_option linter.unusedSectionVars false
open Go Go.RowKit

/-- What a call leaves that may arm a disk. -/
def ActedN (w0 w : World) (S : WS) (e : Ending) (w' : World) : Prop := e = .returned (.bool true) ∧ ∃ S', WOn w0 w' S' ∧ S'.p = S.p ∧ S'.ds.length = S.ds.length ∧ S'.b = S.b ∧ Turn w.heap.size w w' S S'

theorem Acted.noCalm {w0 w : World} {S : WS} {e : Ending} {w' : World} (h : Acted w0 w S e w') : ActedN w0 w S e w' := by
  obtain ⟨h1, S', h2, h3, h4, h5, h6, h7⟩ := h
  exact ⟨h1, S', h2, h3, h4, h5, h7⟩

set_option maxRecDepth 100000 in
set_option maxHeartbeats 1600000 in
theorem acts_arm {w0 w : World} {S : WS} {o : OpI} {i : Nat} (hw : WOn w0 w S) (hi : i < S.ds.length) (hi' : i < S.rs.length) (ho : OpShapes o) (hk : o.kind = 11) (hn : o.n ≤ 9223372036854775807) :
    Calls Tryz.prog 45 #[.pointer (some ⟨S.p, 0, none⟩), .agg o.cells, ptrD S.ds[i], ptrR S.rs[i]] w fun e w' => ActedN w0 w S e w' := by
  obtain ⟨ba, bc, ca, cl, cc, fa, fl, fc, hb1, hc1, hf1⟩ := ho.get
  have hcells : o.cells = #[.int .i64 11, .int .i64 o.obj, .string o.name, .string o.dest, .slice ba o.bs.length bc, .int .i64 o.pos, .int .i64 o.n, .slice ca cl cc, .slice fa fl fc] := by unfold OpI.cells; rw [hk, hb1, hc1, hf1]
  rw [hcells]
  obtain ⟨hal, hso⟩ := hw.pair i hi hi'
  have hdn : S.ds[i].down = S.rs[i].off := hal.down
  have halA : Alike (if S.ds[i].down then S.ds[i] else { S.ds[i] with armed := max o.n 0 } : DS).abs (if S.rs[i].off then S.rs[i] else { S.rs[i] with armed := max o.n 0 } : RS).abs := by
    rw [hdn]
    split
    · exact hal
    · exact ⟨hal.cap, hal.files, hal.down, rfl, hal.cnt⟩
  have hso2 : Sorted (if S.rs[i].off then S.rs[i] else { S.rs[i] with armed := max o.n 0 } : RS).F := by
    split
    · exact hso
    · exact hso
  obtain ⟨s2, hs2⟩ : ∃ s2 : DS, s2 = (if S.ds[i].down then S.ds[i] else { S.ds[i] with armed := max o.n 0 }) := ⟨_, rfl⟩
  obtain ⟨r2, hr2⟩ : ∃ r2 : RS, r2 = (if S.rs[i].off then S.rs[i] else { S.rs[i] with armed := max o.n 0 }) := ⟨_, rfl⟩
  rw [← hs2, ← hr2] at halA
  rw [← hr2] at hso2
  have HD := hid (show ∀ W, Upd (fun _ => False) w W → Calls Tryz.prog 74 #[.pointer (some ⟨S.ds[i].p, 0, none⟩), .int .i64 o.n] W fun e W' => e = .returned (.tuple #[]) ∧ Step W W' S.ds[i] s2 from fun W hW => by
    rw [hs2]
    exact arm_any ((hw.mem.keep hW).dsIn i hi) o.n hn)
  have HR := hid (show ∀ W W1, Upd (fun _ => False) w W → Step W W1 S.ds[i] s2 → Calls Tryz.prog 75 #[.pointer (some ⟨S.rs[i].p, 0, none⟩), .int .i64 o.n] W1 fun e W' => e = .returned (.tuple #[]) ∧ RStep W1 W' S.rs[i] r2 from fun W W1 hW hst => by
    have hkk := hw.keep hW
    have m1 := hkk.mem.stepD hkk.upd.size hi hst
    rw [hr2]
    exact refArm_any (m1.rsIn i hi') o.n hn)
  have HW := hid hw; have HAL := hid halA; have HSO := hid hso2
  unfold ptrD ptrR
  obtain ⟨dp, hdp⟩ : ∃ dp, dp = S.ds[i].p := ⟨_, rfl⟩
  obtain ⟨rp, hrp⟩ : ∃ rp, rp = S.rs[i].p := ⟨_, rfl⟩
  rw [← hdp] at HD
  rw [← hrp] at HR
  rw [← hdp, ← hrp]
  clear hw ho hb1 hc1 hf1 hcells hdp hrp hk hal hso hdn halA hso2 hs2 hr2
  go_enter Tryz.func45, Tryz.ntmps45
  go_wp2_with fail
  obtain ⟨wb, hwb⟩ : ∃ wb, wb = w.alloc (.cells #[.int .i64 11, .int .i64 o.obj, .string o.name, .string o.dest, .slice ba o.bs.length bc, .int .i64 o.pos, .int .i64 o.n, .slice ca cl cc, .slice fa fl fc] 42) := ⟨_, rfl⟩
  rw [← hwb]
  obtain ⟨fb, hfb⟩ : ∃ fb, fb = w.heap.size := ⟨_, rfl⟩
  rw [← hfb]
  have hbx : wb.heap[fb]? = some (.cells #[.int .i64 11, .int .i64 o.obj, .string o.name, .string o.dest, .slice ba o.bs.length bc, .int .i64 o.pos, .int .i64 o.n, .slice ca cl cc, .slice fa fl fc] 42 (0, 0)) := by rw [hwb, hfb]; exact heap_alloc_new w _
  have hub : Upd (fun _ => False) w wb := by rw [hwb]; exact (Upd.refl _ _).alloc _
  have hfd : ¬ fb ∈ S.ds[i].blocks := fun hm => by have := (HW.out.mem.dsIn i hi).lt fb hm; omega
  have hfl : fb < wb.heap.size := lt_of_heap hbx
  have HUB := hid hub; have HBX := hid hbx; have HFD := hid hfd
  clear hwb hfb hub hbx hfd
  refine (HD.out _ HUB.out).mono ?_
  rintro e w2 ⟨rfl, hst⟩
  have b6 : w2.cell? ⟨fb, 6, none⟩ = some (.int .i64 o.n) := by rw [cell_of_row w2 _ 6 _ _ _ ((hst.upd.block fb hfl HFD.out).trans HBX.out)]; rfl
  have hfl2 : fb < w2.heap.size := Nat.lt_of_lt_of_le hfl hst.upd.size
  have HST := hid hst
  clear hst
  go_wp2_with fail
  refine (HR.out _ _ HUB.out HST.out).mono ?_
  rintro e w3 ⟨rfl, hr3⟩
  have HF := hid ((HW.out.keep HUB.out).both hi hi' HST.out hr3 HAL.out HSO.out)
  have HTN := hid (((Turn.keep w.heap.size S HUB.out).trans (Turn.stepD HUB.out.size hi HST.out)).trans (Turn.stepR (S := { S with ds := S.ds.set i s2 }) (Nat.le_trans HUB.out.size HST.out.upd.size) hi' hr3))
  clear hr3
  go_wp2
  go_ret
  exact ⟨rfl, _, HF.out, rfl, by simp, rfl, HTN.out⟩

end Go.Proofs.YtohpgmeflmppaaaGreat

namespace Go.Proofs.YtohpgmeflmppaaaGreat
set_option linter.unusedVariables false
set_option linter.unusedSimpArgs false
set_option linter.unnecessarySimpa false
set_option linter.unusedSectionVars false
open Go Go.RowKit

/-- The program's Read, in one contract. -/
theorem read_c {w : World} {s : DS} (hs : s.In w) (n : ByteArray) (p k : Int) :
    Calls Tryz.prog 7 #[.pointer (some ⟨s.p, 0, none⟩), .string n, .int .i64 p, .int .i64 k] w fun e w' => ∃ v s2, e = .returned (.tuple #[v, .int .i64 (readC s.abs n p k).1]) ∧ DataIs w' v (readC s.abs n p k).2.1 ∧ (∀ b, v.ownBlock = some b → w.heap.size ≤ b) ∧
      Step w w' s s2 ∧ s2.abs = (readC s.abs n p k).2.2 ∧ (∀ b ∈ s2.blocks, b ∈ s.blocks) ∧ (readC s.abs n p k).2.1.length ≤ 67108864 := by
  have hl := lookC_true s n
  by_cases h0 : lookC s.abs n true = 0
  · obtain ⟨fa, hfa⟩ := lookC_zero h0
    have hff := fileAt_findA s n
    cases hf : s.fileAt n with
    | none => rw [hf, hfa] at hff; cases hff
    | some r =>
      rw [hf, hfa] at hff
      have hfa2 : fa = r.abs := (Option.some.inj hff).symm
      subst hfa2
      have hrm := (fileAt_mem hf).1
      have hdl := hs.data_le hrm
      have hrc : readC s.abs n p k = if rangeBad p k r.data.length then (43, [], s.abs) else (0, (r.data.drop p.toNat).take k.toNat, { s.abs with cnt := { s.abs.cnt with reads := wrap64 (s.abs.cnt.reads + 1) } }) := by
        unfold readC
        rw [if_neg (by simpa using h0), hfa]
        rfl
      rw [hrc]
      by_cases hbad : rangeBad p k r.data.length = true
      · rw [if_pos hbad]
        refine (read_range hs n p k hf (hl.trans h0) hbad).mono ?_
        rintro e w' ⟨rfl, rfl⟩
        exact ⟨.slice none 0 0, s, rfl, .inl ⟨rfl, rfl⟩, noneOwn _, Step.refl hs, rfl, fun b hb => hb, by simp⟩
      · rw [if_neg hbad]
        have hb2 : ¬ (p < 0 ∨ k < 0 ∨ (r.data.length : Int) < p ∨ (r.data.length : Int) - p < k) := by simpa [rangeBad] using hbad
        obtain ⟨a, rfl⟩ : ∃ a : Nat, p = a := ⟨p.toNat, by omega⟩
        obtain ⟨m, rfl⟩ : ∃ m : Nat, k = m := ⟨k.toNat, by omega⟩
        rw [Int.toNat_natCast, Int.toNat_natCast]
        refine (read_yes hs n a m hf (hl.trans h0) (by omega)).mono ?_
        rintro e w' ⟨v, rfl, h1, h2, h3⟩
        exact ⟨v, _, rfl, h1, h2, h3, rfl, fun b hb => hb, by simp only [List.length_take, List.length_drop]; omega⟩
  · have hrc : readC s.abs n p k = (lookC s.abs n true, [], s.abs) := by unfold readC; rw [if_pos (by simpa using h0)]
    rw [hrc]
    refine (read_bad hs n p k (by rw [hl]; exact h0)).mono ?_
    rintro e w' ⟨rfl, rfl⟩
    rw [hl]
    exact ⟨.slice none 0 0, s, rfl, .inl ⟨rfl, rfl⟩, noneOwn _, Step.refl hs, rfl, fun b hb => hb, by simp⟩

theorem readC_calm {a : DiskA} (h : a.down = false ∧ a.armed = 0) (n : ByteArray) (p k : Int) : (readC a n p k).2.2.down = false ∧ (readC a n p k).2.2.armed = 0 := by
  unfold readC
  repeat' split
  all_goals exact h

set_option maxRecDepth 100000 in
set_option maxHeartbeats 3200000 in
theorem tells_read {w0 w : World} {S : WS} {o : OpI} {i : Nat} (hw : WOn w0 w S) (hi : i < S.ds.length) (hi' : i < S.rs.length) (ho : OpShapes o) (hk : o.kind = 6) (hn : S.b.n ≤ 4611686018427387904) :
    Calls Tryz.prog 46 #[.pointer (some ⟨S.p, 0, none⟩), .agg o.cells, ptrD S.ds[i], ptrR S.rs[i]] w fun e w' => ActedB w0 w S 268435456 e w' := by
  obtain ⟨ba, bc, ca, cl, cc, fa, fl, fc, hb1, hc1, hf1⟩ := ho.get
  have hcells : o.cells = #[.int .i64 6, .int .i64 o.obj, .string o.name, .string o.dest, .slice ba o.bs.length bc, .int .i64 o.pos, .int .i64 o.n, .slice ca cl cc, .slice fa fl fc] := by unfold OpI.cells; rw [hk, hb1, hc1, hf1]
  rw [hcells]
  obtain ⟨hal, hso⟩ := hw.pair i hi hi'
  have hnd : NamesND S.ds[i].abs := names_nodup (hw.mem.dsIn i hi)
  obtain ⟨ra1, ra2, ra3⟩ := readC_alike hal hnd o.name o.pos o.n
  have HRA1 := hid ra1; have HRA2 := hid ra2; have HRA3 := hid ra3; have HSO := hid hso
  have HW := hid hw
  unfold ptrD ptrR
  obtain ⟨dp, hdp⟩ : ∃ dp, dp = S.ds[i].p := ⟨_, rfl⟩
  obtain ⟨rp, hrp⟩ : ∃ rp, rp = S.rs[i].p := ⟨_, rfl⟩
  rw [← hdp, ← hrp]
  have HDP := hid hdp; have HRP := hid hrp
  clear hw ho hb1 hc1 hf1 hcells hdp hrp hk hal hso hnd ra1 ra2 ra3
  go_enter Tryz.func46, Tryz.ntmps46
  go_wp2_with fail
  obtain ⟨wb, hwb⟩ : ∃ wb, wb = w.alloc (.cells #[.int .i64 6, .int .i64 o.obj, .string o.name, .string o.dest, .slice ba o.bs.length bc, .int .i64 o.pos, .int .i64 o.n, .slice ca cl cc, .slice fa fl fc] 42) := ⟨_, rfl⟩
  rw [← hwb]
  obtain ⟨fb, hfb⟩ : ∃ fb, fb = w.heap.size := ⟨_, rfl⟩
  rw [← hfb]
  have hbx : wb.heap[fb]? = some (.cells #[.int .i64 6, .int .i64 o.obj, .string o.name, .string o.dest, .slice ba o.bs.length bc, .int .i64 o.pos, .int .i64 o.n, .slice ca cl cc, .slice fa fl fc] 42 (0, 0)) := by rw [hwb, hfb]; exact heap_alloc_new w _
  have hub : Upd (fun _ => False) w wb := by rw [hwb]; exact (Upd.refl _ _).alloc _
  have hfd : ¬ fb ∈ S.ds[i].blocks := fun hm => by have := (HW.out.mem.dsIn i hi).lt fb hm; omega
  have hfl2 : fb < wb.heap.size := lt_of_heap hbx
  have HUB := hid hub; have HBX := hid hbx; have HFD := hid hfd; have HFB := hid hfb
  have HON := hid (HW.out.keep hub)
  clear hwb hfb hub hbx hfd
  have hd0 := read_c (HON.out.mem.dsIn i hi) o.name o.pos o.n
  rw [← HDP.out] at hd0
  refine hd0.mono ?_
  rintro e w2 ⟨v1, s2, rfl, hd1, hf1, hst, habs, hsub, hlen⟩
  have m2 := HON.out.mem.stepD HON.out.upd.size hi hst
  have hx2 := (hst.upd.block fb hfl2 HFD.out).trans HBX.out
  have b2 : w2.cell? ⟨fb, 2, none⟩ = some (.string o.name) := by rw [cell_of_row w2 _ 2 _ _ _ hx2]; rfl
  have b5 : w2.cell? ⟨fb, 5, none⟩ = some (.int .i64 o.pos) := by rw [cell_of_row w2 _ 5 _ _ _ hx2]; rfl
  have b6 : w2.cell? ⟨fb, 6, none⟩ = some (.int .i64 o.n) := by rw [cell_of_row w2 _ 6 _ _ _ hx2]; rfl
  have hfb2 : fb < w2.heap.size := lt_of_heap hx2
  obtain ⟨va, vc, hvs, -, -, -, -⟩ := hd1.shape
  have M2 := hid m2; have HD1 := hid hd1; have HF1 := hid hf1; have HST := hid hst; have HAB := hid habs; have HSUB := hid hsub; have HLEN := hid hlen; have HVS := hid hvs
  obtain ⟨NV, hNV⟩ : ∃ NV, NV = (readC S.ds[i].abs o.name o.pos o.n).2.1.length := ⟨_, rfl⟩
  rw [← hNV] at hvs
  subst hvs
  obtain ⟨c, hc⟩ : ∃ c, c = (readC S.ds[i].abs o.name o.pos o.n).1 := ⟨_, rfl⟩
  rw [← hc]
  have HC := hid hc
  clear m2 hx2 hd1 hf1 hst habs hsub hlen hNV hc
  go_wp2_with fail
  have hr0 := refRead_any (M2.out.rsIn i hi') o.name o.pos o.n
  rw [← HRA1.out, ← HC.out, ← HRA2.out] at hr0
  rw [show ({ S with ds := S.ds.set i s2 } : WS).rs[i].p = rp from HRP.out.symm] at hr0
  refine hr0.mono ?_
  rintro e w3 ⟨v2, r2, rfl, hd2, hf2, hr2, hrabs, hrF⟩
  have hs12 : wb.heap.size ≤ w2.heap.size := HST.out.upd.size
  have hwwb : w.heap.size ≤ wb.heap.size := HUB.out.size
  have hw0w : w0.heap.size ≤ w.heap.size := HW.out.upd.size
  have hrlt : ∀ k, S.rs[i].own k → k < w.heap.size := fun k h => (HW.out.mem.rsIn i hi').lt h
  have hdlt : ∀ k, k ∈ S.ds[i].blocks → k < w.heap.size := fun k h => (HW.out.mem.dsIn i hi).lt k h
  have hV1 : ∀ k, (Value.slice va NV vc).ownBlock = some k → wb.heap.size ≤ k ∧ k < w2.heap.size := fun k hk => ⟨HF1.out k hk, HD1.out.lt k hk⟩
  have hd13 := HD1.out.upd hr2.upd (fun k hk h => by have h1 := hrlt k h; have := hV1 k hk; omega)
  have m3 := M2.out.stepR (Nat.le_trans hw0w (Nat.le_trans hwwb hs12)) (i := i) hi' hr2
  have hsame : Calls Tryz.prog 10 #[.slice va NV vc, v2] w3 fun e w' => e = .returned (.bool true) ∧ w' = w3 := (same_any hd13.bytes hd2.bytes).mono (by rintro e w' ⟨rfl, rfl⟩; exact ⟨by simp, rfl⟩)
  have hSp : S.p < w.heap.size := lt_of_heap HW.out.mem.top
  have hblk : ∀ k, S.b.blk k → k < w.heap.size := HW.out.mem.book.lt
  have htake := take_any m3.book m3.top hd13 HLEN.out hn m3.bp (fun e => by have h1 := (hV1 _ e).1; have h2 : wb.heap.size ≤ S.p := h1; omega) (fun k hk hb => by have h1 := (hV1 k hk).1; have h2 := hblk k hb; omega)
  have hnown : ∀ L k, (Value.slice va NV vc).ownBlock = some k → ¬ ({ S with ds := S.ds.set i s2, rs := S.rs.set i r2 } : WS).ownAt L k := by
    intro L k hk hown
    have hk1 := hV1 k hk
    have hlow : ∀ L, ¬ S.ownAt L k := fun L h => by have := HW.out.mem.lt h; omega
    rcases hown with ⟨rfl, hh⟩ | ⟨j, hj, e2, hh⟩ | ⟨j, hj, e2, hh⟩
    · exact hlow 0 (.inl ⟨rfl, hh⟩)
    · have hj' : j < S.ds.length := by simpa using hj
      have hh' : k ∈ ((S.ds.set i s2)[j]'hj).blocks := hh
      by_cases e3 : i = j
      · subst e3
        rw [List.getElem_set_self] at hh'
        exact hlow (2 * i + 1) (.inr (.inl ⟨i, hi, rfl, HSUB.out k hh'⟩))
      · rw [List.getElem_set_ne e3] at hh'
        exact hlow (2 * j + 1) (.inr (.inl ⟨j, hj', rfl, hh'⟩))
    · have hj' : j < S.rs.length := by simpa using hj
      have hh' : ((S.rs.set i r2)[j]'hj).own k := hh
      by_cases e3 : i = j
      · subst e3
        rw [List.getElem_set_self] at hh'
        rcases hr2.foot k hh' with h1 | h1
        · exact hlow (2 * i + 2) (.inr (.inr ⟨i, hi', rfl, h1⟩))
        · omega
      · rw [List.getElem_set_ne e3] at hh'
        exact hlow (2 * j + 2) (.inr (.inr ⟨j, hj', rfl, hh'⟩))
  have hs23 := hr2.upd.size
  have hal : Alike s2.abs r2.abs := by rw [HAB.out, hrabs]; exact HRA3.out
  have hso2 : Sorted r2.F := by rw [hrF]; exact HSO.out
  have htn : Turn w.heap.size w w3 S { S with ds := S.ds.set i s2, rs := S.rs.set i r2 } := ((Turn.keep w.heap.size S HUB.out).trans (Turn.stepD HUB.out.size hi HST.out)).trans (Turn.stepR (S := { S with ds := S.ds.set i s2 }) (Nat.le_trans hwwb hs12) hi' hr2)
  have hu3 : Upd (fun _ => False) w0 w3 := (HON.out.upd.trans HST.out.upd (fun k hk hm => by have := HW.out.mem.low (2 * i + 1) k (.inr (.inl ⟨i, hi, rfl, hm⟩)); omega)).trans hr2.upd (fun k hk hm => by have := HW.out.mem.low (2 * i + 2) k (.inr (.inr ⟨i, hi', rfl, hm⟩)); omega)
  obtain ⟨va2, vc2, hvs2, -, -, -, -⟩ := hd2.shape
  obtain ⟨N2, hN2⟩ : ∃ N2, N2 = (readC S.ds[i].abs o.name o.pos o.n).2.1.length := ⟨_, rfl⟩
  rw [← hN2] at hvs2
  subst hvs2
  have HSAME := hid hsame; have HTAKE := hid htake; have M3 := hid m3; have HNO := hid hnown; have HALL := hid hal; have HSO2 := hid hso2; have HTN := hid htn; have HU3 := hid hu3
  have HV1 := hid (show ∀ k, (Value.slice va NV vc).ownBlock = some k → w.heap.size ≤ k ∧ w0.heap.size ≤ k ∧ k < w3.heap.size from fun k hk => by have := hV1 k hk; exact ⟨by omega, by omega, by omega⟩)
  have HN3 := hid (show w.heap.size ≤ w3.heap.size by omega)
  have HC9 := hid (fun hc : Calm S => hc.set hi (by have h := readC_calm (hc i hi) o.name o.pos o.n; rw [← HAB.out] at h; exact h))
  clear hs12 hwwb hw0w hrlt hdlt hV1 hd13 m3 hsame hSp hblk htake hnown hs23 hal hso2 htn hu3 hN2 hd2 hf2 hr2 hrabs hrF b2 b5 b6 hfb2
  go_wp2_with fail
  refine HSAME.out.mono ?_
  rintro e w4 ⟨rfl, hww⟩
  obtain rfl := hww.symm
  go_wp2_with fail
  refine HTAKE.out.mono ?_
  rintro e w5 ⟨rfl, b', hT⟩
  have m5 := M3.out.took (S := { S with ds := S.ds.set i s2, rs := S.rs.set i r2 }) HU3.out.size hT HNO.out (fun k hk => ⟨(HV1.out k hk).2.1, (HV1.out k hk).2.2⟩)
  have hu5 : Upd (fun _ => False) w0 w5 := HU3.out.trans hT.upd (fun k hk hm => by
    rcases hm with hm | hm | hm
    · have h1 : k = S.p := hm; have := HW.out.mem.low 0 k (.inl ⟨rfl, .inl h1⟩); omega
    · have h1 : S.b.blk k := hm; have := HW.out.mem.low 0 k (.inl ⟨rfl, .inr (.inr (.inr h1))⟩); omega
    · have := (HV1.out k hm).2.1; omega)
  have HF := hid (HW.out.mk2 hi hi' m5 hu5 HALL.out HSO2.out)
  have HTT := hid (HTN.out.trans (Turn.took (S := { S with ds := S.ds.set i s2, rs := S.rs.set i r2 }) hT HN3.out (fun k hk => (HV1.out k hk).1)))
  have HMOST := hid hT.most
  clear m5 hu5 hT
  go_wp2_with (go_at_call 9; refine (num_any _ _).mono ?_; rintro e w' ⟨rfl, hww⟩; obtain rfl := hww.symm)
  all_goals
    go_ret
    exact ⟨rfl, _, HF.out, rfl, by simp, HMOST.out, fun hc => HC9.out hc b' (S.rs.set i r2), HTT.out⟩

end Go.Proofs.YtohpgmeflmppaaaGreat

namespace Go.Proofs.YtohpgmeflmppaaaGreat
set_option linter.unusedVariables false
set_option linter.unusedSimpArgs false
set_option linter.unnecessarySimpa false
set_option linter.unusedSectionVars false
open Go Go.RowKit

theorem listR_same {w : World} {s : DS} {r : RS} (hs : s.In w) (h : Alike s.abs r.abs) (hso : Sorted r.F) (p : ByteArray) : listR r.F p = listNames s p := by
  have h1 := sorted_fileList hs h hso
  have h2 := fileList_names hs
  rw [← h1, List.map_map] at h2
  unfold listR listNames
  rw [← h2]
  rfl

set_option maxRecDepth 100000 in
set_option maxHeartbeats 800000 in
theorem sameNames_any {w : World} {b1 b2 n1 n2 : Nat} {v1 v2 : Value} {l : List ByteArray} (h1 : w.ownsRow b1 9 1 v1 n1 (l.map Value.string)) (h2 : w.ownsRow b2 9 1 v2 n2 (l.map Value.string)) :
    Calls Tryz.prog 13 #[v1, v2] w fun e w' => e = .returned (.bool true) ∧ Upd (fun _ => False) w w' := by
  obtain ⟨a1, c1, rfl, e1, hc1⟩ := owns_shape h1
  obtain ⟨a2, c2, rfl, e2, hc2⟩ := owns_shape h2
  have hcap : n1 ≤ c1 ∧ c1 ≤ maxLen := by
    rcases h1.2 with ⟨e, hz⟩ | ⟨g, cap, cur, e, -, -, q1, q2, -⟩
    · injection e with _ _ e3; exact ⟨by omega, by rw [e3]; decide⟩
    · injection e with _ _ e3; subst e3; exact ⟨q1, q2⟩
  obtain ⟨hcap1, hcap2⟩ := hcap
  have hcap3 : n1 ≤ 9223372036854775807 := Nat.le_trans hcap1 (by simpa [maxLen] using hcap2)
  rw [List.length_map] at e1 e2
  have HC1 := hid hc1; have HC2 := hid hc2
  obtain rfl : n2 = n1 := by omega
  have HE := hid e1
  clear h1 h2 hc1 hc2 e1 e2 hcap2
  go_enter Tryz.func13, Tryz.ntmps13
  go_wp2
  go_loopw [5] (fun i wr => ∃ k : Nat, k ≤ n2 ∧ i = .int .i64 k ∧ Drawn w wr) (fun i _ => n2 - (intOf i).toNat)
  case atStart => exact ⟨0, Nat.zero_le _, rfl, ⟨Upd.refl _ _, rfl⟩⟩
  case round =>
    obtain ⟨k, hk, rfl, hdr⟩ := hrel
    have HDR := hid hdr
    by_cases hlt : k < n2
    · obtain ⟨g1, rfl, -, hg1, d1⟩ := HC1.out k hlt
      obtain ⟨g2, rfl, -, hg2, d2⟩ := HC2.out k hlt
      have hkl : k < l.length := by have := HE.out; omega
      have q1 : wr.cell? ⟨g1, k, none⟩ = some (.string l[k]) := by rw [hdr.cell, d1 k (by simpa using hkl)]; simp
      have q2 : wr.cell? ⟨g2, k, none⟩ = some (.string l[k]) := by rw [hdr.cell, d2 k (by simpa using hkl)]; simp
      generalize l[k] = x at q1 q2
      clear hdr d1 d2
      go_wp2_with fail
      go_quiet (fail)
      go_wp2
      go_roundw
      case rel => exact ⟨k + 1, by omega, by go_num, HDR.out.drewN _⟩
      case measure => simp [intOf]; omega
    · obtain rfl : k = n2 := by omega
      clear hdr
      go_wp2
      go_ret
      exact ⟨rfl, HDR.out.1⟩

end Go.Proofs.YtohpgmeflmppaaaGreat

namespace Go.Proofs.YtohpgmeflmppaaaGreat
set_option linter.unusedVariables false
set_option linter.unusedSimpArgs false
set_option linter.unnecessarySimpa false
set_option linter.unusedSectionVars false
open Go Go.RowKit

set_option maxRecDepth 100000 in
set_option maxHeartbeats 1600000 in
theorem tells_other {w0 w : World} {S : WS} {o : OpI} (i j : Value) (hw : WOn w0 w S) (ho : OpShapes o) (h6 : o.kind ≠ 6) (h7 : o.kind ≠ 7) (h8 : o.kind ≠ 8) (h9 : o.kind ≠ 9) (h10 : o.kind ≠ 10) (h12 : o.kind ≠ 12) (h15 : o.kind ≠ 15) (h16 : o.kind ≠ 16) :
    Calls Tryz.prog 46 #[.pointer (some ⟨S.p, 0, none⟩), .agg o.cells, i, j] w fun e w' => Acted w0 w S e w' := by
  obtain ⟨ba, bc, ca, cl, cc, fa, fl, fc, hb1, hc1, hf1⟩ := ho.get
  have hcells : o.cells = #[.int .i64 o.kind, .int .i64 o.obj, .string o.name, .string o.dest, .slice ba o.bs.length bc, .int .i64 o.pos, .int .i64 o.n, .slice ca cl cc, .slice fa fl fc] := by unfold OpI.cells; rw [hb1, hc1, hf1]
  rw [hcells]
  have HW := hid hw
  have b6 : (o.kind == 6) = false := by simpa using h6
  have b7 : (o.kind == 7) = false := by simpa using h7
  have b8 : (o.kind == 8) = false := by simpa using h8
  have b9 : (o.kind == 9) = false := by simpa using h9
  have b10 : (o.kind == 10) = false := by simpa using h10
  have b12 : (o.kind == 12) = false := by simpa using h12
  have b15 : (o.kind == 15) = false := by simpa using h15
  have b16 : (o.kind == 16) = false := by simpa using h16
  generalize o.kind = kd at *
  have HUB := hid ((Upd.refl (fun _ => False) w).alloc (.cells #[.int .i64 kd, .int .i64 o.obj, .string o.name, .string o.dest, .slice ba o.bs.length bc, .int .i64 o.pos, .int .i64 o.n, .slice ca cl cc, .slice fa fl fc] 42))
  clear hw ho hb1 hc1 hf1 hcells
  go_enter Tryz.func46, Tryz.ntmps46
  go_wp2
  go_ret
  exact ⟨rfl, S, HW.out.keep HUB.out, rfl, rfl, rfl, id, Turn.keep _ _ HUB.out⟩

end Go.Proofs.YtohpgmeflmppaaaGreat
