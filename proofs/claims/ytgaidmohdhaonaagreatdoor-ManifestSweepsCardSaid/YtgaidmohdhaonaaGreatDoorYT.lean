/-
  strataref7.SameMeta, strataref10.Same; stratalaw10.num, same, first.
  strataref10.Same.
-/
import Derived.Test.YtgaidmohdhaonaaGreatDoorYL
import Derived.Test.YtgaidmohdhaonaaGreatDoorYJ
namespace Go.Proofs.YtgaidmohdhaonaaGreatDoor
set_option linter.unusedVariables false
set_option linter.unusedSimpArgs false
set_option linter.unnecessarySimpa false
set_option linter.unusedSectionVars false
open Go Go.RowKit

def sameMetaB (x y : MetaA) : Bool :=
  decide (x.num = y.num) && decide (x.count = y.count) && decide (x.index = y.index) && decide (x.low = y.low) && decide (x.clock = y.clock) && decide (x.bytes = y.bytes) && decide (x.first = y.first) && decide (x.last = y.last)

theorem sameMetaB_iff {x y : MetaA} : sameMetaB x y = true ↔ x = y := by
  cases x; cases y
  simp [sameMetaB, and_assoc]

set_option maxRecDepth 100000 in
set_option maxHeartbeats 6400000 in
theorem sameMeta_any {w : World} {x y : MetaA} {f1 f2 g1 g2 : Option Addr} {c1 c2 d1 d2 : Nat} (hf1 : BAt w (.slice f1 x.first.length c1) x.first) (hf2 : BAt w (.slice f2 x.last.length c2) x.last) (hg1 : BAt w (.slice g1 y.first.length d1) y.first) (hg2 : BAt w (.slice g2 y.last.length d2) y.last) :
    Calls Tryz.prog 80 #[.agg #[.int .i64 x.num, .int .i64 x.count, .int .i64 x.index, .int .i64 x.low, .int .i64 x.clock, .int .i64 x.bytes, .slice f1 x.first.length c1, .slice f2 x.last.length c2], .agg #[.int .i64 y.num, .int .i64 y.count, .int .i64 y.index, .int .i64 y.low, .int .i64 y.clock, .int .i64 y.bytes, .slice g1 y.first.length d1, .slice g2 y.last.length d2]] w fun e w' => e = .returned (.bool (sameMetaB x y)) ∧ Upd (fun _ => False) w w' := by
  have HU := hid (((Upd.refl (fun _ => False) w).alloc (.cells #[.int .i64 x.num, .int .i64 x.count, .int .i64 x.index, .int .i64 x.low, .int .i64 x.clock, .int .i64 x.bytes, .slice f1 x.first.length c1, .slice f2 x.last.length c2] 48)).alloc (.cells #[.int .i64 y.num, .int .i64 y.count, .int .i64 y.index, .int .i64 y.low, .int .i64 y.clock, .int .i64 y.bytes, .slice g1 y.first.length d1, .slice g2 y.last.length d2] 48))
  have HS1 := hid (refSame_any (hf1.keep HU.out) (hg1.keep HU.out))
  have HS2 := hid (refSame_any (hf2.keep HU.out) (hg2.keep HU.out))
  clear hf1 hf2 hg1 hg2
  by_cases e0 : x.num = y.num
  case neg =>
    have HR := hid (show sameMetaB x y = false from by simp [sameMetaB, e0])
    have b0 : (x.num == y.num) = false := by simpa using e0
    clear e0
    go_enter Tryz.func80, Tryz.ntmps80
    go_wp2
    go_ret
    exact ⟨by rw [HR.out]; rfl, HU.out⟩
  have b0 : (x.num == y.num) = true := by simpa using e0
  have E0 := hid e0
  clear e0
  by_cases e1 : x.count = y.count
  case neg =>
    have HR := hid (show sameMetaB x y = false from by simp [sameMetaB, e1])
    have b1 : (x.count == y.count) = false := by simpa using e1
    clear e1
    go_enter Tryz.func80, Tryz.ntmps80
    go_wp2
    go_ret
    exact ⟨by rw [HR.out]; rfl, HU.out⟩
  have b1 : (x.count == y.count) = true := by simpa using e1
  have E1 := hid e1
  clear e1
  by_cases e2 : x.index = y.index
  case neg =>
    have HR := hid (show sameMetaB x y = false from by simp [sameMetaB, e2])
    have b2 : (x.index == y.index) = false := by simpa using e2
    clear e2
    go_enter Tryz.func80, Tryz.ntmps80
    go_wp2
    go_ret
    exact ⟨by rw [HR.out]; rfl, HU.out⟩
  have b2 : (x.index == y.index) = true := by simpa using e2
  have E2 := hid e2
  clear e2
  by_cases e3 : x.low = y.low
  case neg =>
    have HR := hid (show sameMetaB x y = false from by simp [sameMetaB, e3])
    have b3 : (x.low == y.low) = false := by simpa using e3
    clear e3
    go_enter Tryz.func80, Tryz.ntmps80
    go_wp2
    go_ret
    exact ⟨by rw [HR.out]; rfl, HU.out⟩
  have b3 : (x.low == y.low) = true := by simpa using e3
  have E3 := hid e3
  clear e3
  by_cases e4 : x.clock = y.clock
  case neg =>
    have HR := hid (show sameMetaB x y = false from by simp [sameMetaB, e4])
    have b4 : (x.clock == y.clock) = false := by simpa using e4
    clear e4
    go_enter Tryz.func80, Tryz.ntmps80
    go_wp2
    go_ret
    exact ⟨by rw [HR.out]; rfl, HU.out⟩
  have b4 : (x.clock == y.clock) = true := by simpa using e4
  have E4 := hid e4
  clear e4
  by_cases e5 : x.bytes = y.bytes
  case neg =>
    have HR := hid (show sameMetaB x y = false from by simp [sameMetaB, e5])
    have b5 : (x.bytes == y.bytes) = false := by simpa using e5
    clear e5
    go_enter Tryz.func80, Tryz.ntmps80
    go_wp2
    go_ret
    exact ⟨by rw [HR.out]; rfl, HU.out⟩
  have b5 : (x.bytes == y.bytes) = true := by simpa using e5
  have E5 := hid e5
  clear e5
  have HR := hid (show sameMetaB x y = (decide (x.first = y.first) && decide (x.last = y.last)) from by simp [sameMetaB, E0.out, E1.out, E2.out, E3.out, E4.out, E5.out])
  by_cases h1 : x.first = y.first
  · rw [decide_eq_true h1] at HS1 HR
    rw [Bool.true_and] at HR
    have H1 := hid h1
    clear h1
    go_enter Tryz.func80, Tryz.ntmps80
    go_wp2_with fail
    refine HS1.out.mono ?_
    rintro e w1 ⟨rfl, rfl⟩
    go_wp2_with fail
    refine HS2.out.mono ?_
    rintro e w1 ⟨rfl, rfl⟩
    go_wp2
    go_ret
    exact ⟨by rw [HR.out]; rfl, HU.out⟩
  · rw [decide_eq_false h1] at HS1 HR
    rw [Bool.false_and] at HR
    clear h1
    go_enter Tryz.func80, Tryz.ntmps80
    go_wp2_with fail
    refine HS1.out.mono ?_
    rintro e w1 ⟨rfl, rfl⟩
    go_wp2
    go_ret
    exact ⟨by rw [HR.out]; rfl, HU.out⟩


theorem lawNum_any (w : World) (n : Int) (h : -9223372036854775808 ≤ n ∧ n ≤ 9223372036854775807) :
    Calls Tryz.prog 13 #[.int .i64 n] w fun e w' => e = .returned (.int .i64 n) ∧ w' = w := by
  go_enter Tryz.func13, Tryz.ntmps13
  go_wp2
  go_ret
  exact ⟨rfl, rfl⟩

theorem lawSame_any {w : World} {a b : Value} {xs bs : List UInt8} (ha : BAt w a xs) (hb : BAt w b bs) :
    Calls Tryz.prog 23 #[a, b] w fun e w' => e = .returned (.bool (decide (xs = bs))) ∧ w' = w := by
  have HS := hid (refSame_any ha hb)
  clear ha hb
  go_enter Tryz.func23, Tryz.ntmps23
  go_wp2_with fail
  refine HS.out.mono ?_
  rintro e w1 ⟨rfl, rfl⟩
  go_wp2
  go_ret
  exact ⟨rfl, rfl⟩

theorem lawFirst_any (w : World) :
    Calls Tryz.prog 11 #[] w fun e w' => e = .returned (.agg (verC 1 0 1 0 1 (.slice none 0 0) (.slice none 0 0))) ∧ Upd (fun _ => False) w w' := by
  go_enter Tryz.func11, Tryz.ntmps11
  have hb := heap_alloc_new w (.cells (verC 0 0 0 0 0 (.slice none 0 0) (.slice none 0 0)) 25)
  have hu := (Upd.refl (fun _ => False) w).alloc (.cells (verC 0 0 0 0 0 (.slice none 0 0) (.slice none 0 0)) 25)
  go_upto_region 1 with fail
  obtain ⟨p, hp⟩ : ∃ p, p = w.heap.size := ⟨_, rfl⟩
  rw [← hp] at hb ⊢
  have HU := hid hu; have HB := hid hb; have HP := hid hp
  generalize w.alloc (.cells #[.int .i64 0, .int .i64 0, .int .i64 0, .int .i64 0, .int .i64 0, .slice none 0 0, .slice none 0 0] 25) = W1 at HU HB ⊢
  clear hu hb hp
  obtain ⟨⟨q0, q1, q2, q3, q4, q5, q6⟩, ⟨z0, z1, z2, z3, z4, z5, z6⟩, hql⟩ := verCells HB.out
  have HO := hid (And.intro (verOut_at HB.out 1 0 1 0 1 (.slice none 0 0) (.slice none 0 0)) (verOut_upd HU.out (p := p) (fun e => by have := HP.out; omega) 1 0 1 0 1 (.slice none 0 0) (.slice none 0 0)))
  go_wp2
  (try simp only [Exit.inBlock, Exit.then])
  refine bodyPost_ret (results_ver1 rfl _ _ p _ rfl rfl HO.out.1) rfl ?_
  exact ⟨rfl, HO.out.2⟩

end Go.Proofs.YtgaidmohdhaonaaGreatDoor

namespace Go.Proofs.YtgaidmohdhaonaaGreatDoor
set_option linter.unusedVariables false
set_option linter.unusedSimpArgs false
set_option linter.unnecessarySimpa false
set_option linter.unusedSectionVars false
open Go Go.RowKit

def sameVerB (x y : VerA) : Bool :=
  decide (x.gen = y.gen) && decide (x.flushed = y.flushed) && decide (x.next = y.next) && decide (x.low = y.low) && decide (x.clock = y.clock) && decide (x.state = y.state) && decide (x.runs.length = y.runs.length) &&
  (List.range x.runs.length).all fun i => sameMetaB (x.runs.getD i zeroMeta) (y.runs.getD i zeroMeta)

theorem sameVerB_iff {x y : VerA} : sameVerB x y = true ↔ x = y := by
  constructor
  · intro h
    simp only [sameVerB, Bool.and_eq_true, decide_eq_true_eq, List.all_eq_true, List.mem_range] at h
    obtain ⟨⟨⟨⟨⟨⟨⟨h0, h1⟩, h2⟩, h3⟩, h4⟩, h5⟩, h6⟩, h7⟩ := h
    have hr : x.runs = y.runs := by
      refine List.ext_getElem h6 (fun i a b => ?_)
      have := sameMetaB_iff.1 (h7 i a)
      simpa [List.getD_eq_getElem?_getD, List.getElem?_eq_getElem a, List.getElem?_eq_getElem b] using this
    cases x; cases y
    simp_all
  · rintro rfl
    have h : ∀ m, sameMetaB m m = true := fun m => sameMetaB_iff.2 rfl
    simp [sameVerB, h]

theorem sameVerB_at {x y : VerA} {i : Nat} (hi : i < x.runs.length) (h : sameMetaB (x.runs.getD i zeroMeta) (y.runs.getD i zeroMeta) = false) : sameVerB x y = false := by
  rw [Bool.eq_false_iff]
  intro e
  rw [sameVerB_iff] at e
  subst e
  rw [sameMetaB_iff.2 rfl] at h
  cases h

set_option maxRecDepth 100000 in
set_option maxHeartbeats 6400000 in
theorem sameVer_any {w : World} {va vb : Value} {x y : VerA} (hx : VerAt w va x) (hy : VerAt w vb y) (hl : x.runs.length ≤ 140737488351232) :
    Calls Tryz.prog 24 #[va, vb] w fun e w' => e = .returned (.bool (sameVerB x y)) ∧ Upd (fun _ => False) w w' := by
  obtain ⟨s1, d1, s2, d2, rfl, hb1, hr1⟩ := hx
  obtain ⟨t1, e1, t2, e2, rfl, hb2, hr2⟩ := hy
  have HBX := hid hb1; have HBY := hid hb2
  have HRX := hid hr1; have HRY := hid hr2
  obtain ⟨nx, hnx⟩ : ∃ n, n = x.runs.length := ⟨_, rfl⟩
  obtain ⟨ny, hny⟩ : ∃ n, n = y.runs.length := ⟨_, rfl⟩
  rw [← hnx] at HRX hl ⊢
  rw [← hny] at HRY ⊢
  have HNX := hid hnx; have HNY := hid hny
  clear hb1 hb2 hr1 hr2 hnx hny
  have HU := hid (((Upd.refl (fun _ => False) w).alloc (.cells #[.int .i64 x.gen, .int .i64 x.flushed, .int .i64 x.next, .int .i64 x.low, .int .i64 x.clock, .slice s1 x.state.length d1, .slice s2 nx d2] 25)).alloc (.cells #[.int .i64 y.gen, .int .i64 y.flushed, .int .i64 y.next, .int .i64 y.low, .int .i64 y.clock, .slice t1 y.state.length e1, .slice t2 ny e2] 25))
  have HS := hid (refSame_any (HBX.out.keep HU.out) (HBY.out.keep HU.out))
  by_cases q0 : x.gen = y.gen
  case neg =>
    have HR := hid (show sameVerB x y = false from by simp [sameVerB, q0])
    have b0 : (x.gen != y.gen) = true := by simpa using q0
    clear q0
    go_enter Tryz.func24, Tryz.ntmps24
    go_wp2
    go_ret
    exact ⟨by rw [HR.out]; rfl, HU.out⟩
  have b0 : (x.gen != y.gen) = false := by simpa using q0
  have Q0 := hid q0
  clear q0
  by_cases q1 : x.flushed = y.flushed
  case neg =>
    have HR := hid (show sameVerB x y = false from by simp [sameVerB, q1])
    have b1 : (x.flushed != y.flushed) = true := by simpa using q1
    clear q1
    go_enter Tryz.func24, Tryz.ntmps24
    go_wp2
    go_ret
    exact ⟨by rw [HR.out]; rfl, HU.out⟩
  have b1 : (x.flushed != y.flushed) = false := by simpa using q1
  have Q1 := hid q1
  clear q1
  by_cases q2 : x.next = y.next
  case neg =>
    have HR := hid (show sameVerB x y = false from by simp [sameVerB, q2])
    have b2 : (x.next != y.next) = true := by simpa using q2
    clear q2
    go_enter Tryz.func24, Tryz.ntmps24
    go_wp2
    go_ret
    exact ⟨by rw [HR.out]; rfl, HU.out⟩
  have b2 : (x.next != y.next) = false := by simpa using q2
  have Q2 := hid q2
  clear q2
  by_cases q3 : x.low = y.low
  case neg =>
    have HR := hid (show sameVerB x y = false from by simp [sameVerB, q3])
    have b3 : (x.low != y.low) = true := by simpa using q3
    clear q3
    go_enter Tryz.func24, Tryz.ntmps24
    go_wp2
    go_ret
    exact ⟨by rw [HR.out]; rfl, HU.out⟩
  have b3 : (x.low != y.low) = false := by simpa using q3
  have Q3 := hid q3
  clear q3
  by_cases q4 : x.clock = y.clock
  case neg =>
    have HR := hid (show sameVerB x y = false from by simp [sameVerB, q4])
    have b4 : (x.clock != y.clock) = true := by simpa using q4
    clear q4
    go_enter Tryz.func24, Tryz.ntmps24
    go_wp2
    go_ret
    exact ⟨by rw [HR.out]; rfl, HU.out⟩
  have b4 : (x.clock != y.clock) = false := by simpa using q4
  have Q4 := hid q4
  clear q4
  by_cases q5 : x.state = y.state
  case neg =>
    have HR := hid (show sameVerB x y = false from by simp [sameVerB, q5])
    rw [decide_eq_false q5] at HS
    clear q5
    go_enter Tryz.func24, Tryz.ntmps24
    go_wp2_with fail
    refine HS.out.mono ?_
    rintro e w1 ⟨rfl, rfl⟩
    go_wp2
    go_ret
    exact ⟨by rw [HR.out]; rfl, HU.out⟩
  rw [decide_eq_true q5] at HS
  have Q5 := hid q5
  clear q5
  by_cases q6 : nx = ny
  case neg =>
    have HR := hid (show sameVerB x y = false from by simp [sameVerB]; intro _ _ _ _ _ _ h; exact absurd (by rw [HNX.out, HNY.out, h]) q6)
    have b6 : ((nx : Int) != (ny : Int)) = true := by simp; omega
    clear q6
    go_enter Tryz.func24, Tryz.ntmps24
    go_wp2_with fail
    refine HS.out.mono ?_
    rintro e w1 ⟨rfl, rfl⟩
    go_wp2
    go_ret
    exact ⟨by rw [HR.out]; rfl, HU.out⟩
  subst q6
  have b6 : ((nx : Int) != (nx : Int)) = false := by simp
  go_enter Tryz.func24, Tryz.ntmps24
  go_wp2_with fail
  refine HS.out.mono ?_
  rintro e w1 ⟨rfl, hww⟩
  obtain ⟨W2, hW2⟩ : ∃ W, W = (w.alloc (.cells #[.int .i64 x.gen, .int .i64 x.flushed, .int .i64 x.next, .int .i64 x.low, .int .i64 x.clock, .slice s1 x.state.length d1, .slice s2 nx d2] 25)).alloc (.cells #[.int .i64 y.gen, .int .i64 y.flushed, .int .i64 y.next, .int .i64 y.low, .int .i64 y.clock, .slice t1 y.state.length e1, .slice t2 nx e2] 25) := ⟨_, rfl⟩
  have hra := heap_alloc_new w (.cells #[.int .i64 x.gen, .int .i64 x.flushed, .int .i64 x.next, .int .i64 x.low, .int .i64 x.clock, .slice s1 x.state.length d1, .slice s2 nx d2] 25)
  have hrb := heap_alloc_new (w.alloc (.cells #[.int .i64 x.gen, .int .i64 x.flushed, .int .i64 x.next, .int .i64 x.low, .int .i64 x.clock, .slice s1 x.state.length d1, .slice s2 nx d2] 25)) (.cells #[.int .i64 y.gen, .int .i64 y.flushed, .int .i64 y.next, .int .i64 y.low, .int .i64 y.clock, .slice t1 y.state.length e1, .slice t2 nx e2] 25)
  have hra2 : W2.heap[w.heap.size]? = some (.cells #[.int .i64 x.gen, .int .i64 x.flushed, .int .i64 x.next, .int .i64 x.low, .int .i64 x.clock, .slice s1 x.state.length d1, .slice s2 nx d2] 25 (0, 0)) := by rw [hW2, heap_alloc_past _ _ _ (by simp)]; exact hra
  rw [World.size_alloc, ← hW2] at hrb
  rw [← hW2] at HU
  have hw1 : w1 = W2 := by rw [hww, hW2]
  subst hw1
  have HROA := hid hra2; have HROB := hid hrb
  obtain ⟨pa, hpa⟩ : ∃ p, p = w.heap.size := ⟨_, rfl⟩
  obtain ⟨pb, hpb⟩ : ∃ p, p = w.heap.size + 1 := ⟨_, rfl⟩
  rw [← hpa] at HROA
  rw [← hpb] at HROB
  rw [← hpb, ← hpa]
  clear hww hW2 hra hrb hra2 hpa hpb b0 b1 b2 b3 b4 HS
  obtain ⟨⟨z0, z1, z2, z3, z4, z5, z6⟩, -, hal⟩ := verCells HROA.out
  obtain ⟨⟨v0, v1, v2, v3, v4, v5, v6⟩, -, hbl⟩ := verCells HROB.out
  clear z0 z1 z2 z3 z4 z5 v0 v1 v2 v3 v4 v5
  go_wp2
  clear z6 v6 hal hbl
  go_loopw [5] (fun iv wr => ∃ k : Nat, iv = .int .i64 k ∧ k ≤ nx ∧ Upd (fun _ => False) w1 wr ∧ ∀ j < k, sameMetaB (x.runs.getD j zeroMeta) (y.runs.getD j zeroMeta) = true) (fun iv _ => nx - (intOf iv).toNat)
  case atStart => exact ⟨0, rfl, by omega, Upd.refl _ _, fun j hj => absurd hj (by omega)⟩
  case round =>
    obtain ⟨k, rfl, hk, hup, hall⟩ := hrel
    have HUP := hid hup; have HALL := hid hall
    obtain ⟨wo, rfl⟩ : ∃ wo, wo = wr := ⟨_, rfl⟩
    have HA := hid (hup.get HROA.out (fun e => e))
    have HB := hid (hup.get HROB.out (fun e => e))
    obtain ⟨⟨z0, z1, z2, z3, z4, z5, z6⟩, -, hal⟩ := verCells HA.out
    obtain ⟨⟨v0, v1, v2, v3, v4, v5, v6⟩, -, hbl⟩ := verCells HB.out
    clear hup hall z0 z1 z2 z3 z4 z5 v0 v1 v2 v3 v4 v5
    by_cases hlt : k < nx
    · have hkx : k < x.runs.length := by have := HNX.out; omega
      have hky : k < y.runs.length := by have := HNY.out; omega
      have HWO := hid (HU.out.trans HUP.out (fun _ _ e => e))
      have h1 := HRX.out.keep HWO.out
      have h2 := HRY.out.keep HWO.out
      obtain ⟨xa, xc, ex, hx1, hx2, hx3⟩ := h1
      obtain ⟨ya, yc, ey, hy1, hy2, hy3⟩ := h2
      injection ex with ex1 ex2 ex3
      injection ey with ey1 ey2 ey3
      subst ex1; subst ex3; subst ey1; subst ey3
      clear ex2 ey2
      obtain ⟨bx, ox, f1, c1, f2, c2, rfl, hbx, g0, g1, g2, g3, g4, g5, g6, g7, hB1, hB2⟩ := hx3 k hkx
      obtain ⟨bz, oz, l1, m1, l2, m2, rfl, hbz, i0, i1, i2, i3, i4, i5, i6, i7, hB3, hB4⟩ := hy3 k hky
      have HGX := hid (show x.runs.getD k zeroMeta = x.runs[k] from getD_at hkx)
      have HGY := hid (show y.runs.getD k zeroMeta = y.runs[k] from getD_at hky)
      obtain ⟨r, hr⟩ : ∃ r, r = x.runs[k] := ⟨_, rfl⟩
      obtain ⟨t, ht⟩ : ∃ r, r = y.runs[k] := ⟨_, rfl⟩
      rw [← hr] at g0 g1 g2 g3 g4 g5 g6 g7 hB1 hB2 HGX
      rw [← ht] at i0 i1 i2 i3 i4 i5 i6 i7 hB3 hB4 HGY
      have HM := hid (sameMeta_any (hB1.keep (Upd.refl (fun _ => False) wo).drew) (hB2.keep (Upd.refl (fun _ => False) wo).drew) (hB3.keep (Upd.refl (fun _ => False) wo).drew) (hB4.keep (Upd.refl (fun _ => False) wo).drew))
      have HKX := hid hkx
      have hxc : (k : Int) < (d2 : Int) := by omega
      clear hx3 hy3 hB1 hB2 hB3 hB4 hr ht hkx hky hx1 hx2 hy1 hy2
      obtain ⟨F, hF⟩ : ∃ F, F = sameMetaB r t := ⟨_, rfl⟩
      rw [← hF] at HM
      have HF := hid hF
      clear hF
      go_upto_region 6 with fail
      go_still_tail 10, (by kernel_rfl)
      change wpList _ _ _ _ _ wo.drew
      go_wp2_with fail
      refine HM.out.mono ?_
      rintro e w2 ⟨rfl, hu2⟩
      have HU2 := hid (HUP.out.trans ((Upd.refl (fun _ => False) wo).drew.trans hu2 (fun _ _ e => e)) (fun _ _ e => e))
      clear hu2 g0 g1 g2 g3 g4 g5 g6 g7 i0 i1 i2 i3 i4 i5 i6 i7 HM z6 v6 hal hbl
      cases F
      · have HR := hid (sameVerB_at (x := x) (y := y) HKX.out (by rw [HGX.out, HGY.out]; exact HF.out.symm))
        go_wp2
        go_ret
        exact ⟨by rw [HR.out]; rfl, HU.out.trans HU2.out (fun _ _ e => e)⟩
      · have HN := hid (show ∀ j < k + 1, sameMetaB (x.runs.getD j zeroMeta) (y.runs.getD j zeroMeta) = true from by
          intro j hj
          rcases Nat.lt_succ_iff_lt_or_eq.1 hj with h | rfl
          · exact HALL.out j h
          · rw [HGX.out, HGY.out]; exact HF.out.symm)
        go_wp2
        go_roundw
        case rel => exact ⟨k + 1, by simp, by omega, HU2.out, HN.out⟩
        case measure => simp [intOf]; omega
    · have HR := hid (show sameVerB x y = true from by
        simp only [sameVerB, Bool.and_eq_true, decide_eq_true_eq, List.all_eq_true, List.mem_range]
        exact ⟨⟨⟨⟨⟨⟨⟨Q0.out, Q1.out⟩, Q2.out⟩, Q3.out⟩, Q4.out⟩, Q5.out⟩, by rw [← HNX.out, ← HNY.out]⟩, fun i hi => HALL.out i (by have := HNX.out; omega)⟩)
      go_wp2
      go_ret
      exact ⟨by rw [HR.out]; rfl, HU.out.trans HUP.out (fun _ _ e => e)⟩


end Go.Proofs.YtgaidmohdhaonaaGreatDoor
