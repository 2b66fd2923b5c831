/-
  stratalaw10.VersionOwn, walked.
-/
import Derived.Test.YtgaidmohdhaonaaGreatDoorSJ
import Derived.Test.YtgaidmohdhaonaaGreatDoorZC
namespace Go.Proofs.YtgaidmohdhaonaaGreatDoor
set_option linter.unusedVariables false
set_option linter.unusedSimpArgs false
set_option linter.unnecessarySimpa false
set_option linter.unusedSectionVars false
open Go Go.RowKit

/-- Beside the disk: what was there at wA turns in one box alone. -/
structure OS (w wA W : World) (p1 p : Nat) (s : DS) (R : List (Nat × Obj)) : Prop where
  db : DB w W p s R
  lowA : ∀ k ∈ s.blocks, wA.heap.size ≤ k
  updA : Upd (fun k => k = p1) wA W

section
variable {w wA W W' : World} {p1 p : Nat} {s s2 : DS} {R : List (Nat × Obj)}
theorem OS.step (h : OS w wA W p1 p s R) (hst : Step W W' s s2) : OS w wA W' p1 p s2 R :=
  ⟨h.db.step hst, fun k hk => (hst.foot k hk).elim (h.lowA k) (fun e => Nat.le_trans h.updA.size e), h.updA.trans hst.upd (fun k hk e => by have := h.lowA k e; omega)⟩
theorem OS.quiet (h : OS w wA W p1 p s R) (hu : Upd (fun _ => False) W W') : OS w wA W' p1 p s R := ⟨h.db.quiet hu, h.lowA, h.updA.trans hu (fun _ _ e => e.elim)⟩
theorem OS.push (h : OS w wA W p1 p s R) (o : Obj) : OS w wA (W.alloc o) p1 p s ((W.heap.size, o) :: R) := ⟨h.db.push o, h.lowA, h.updA.alloc o⟩
theorem OS.set {R' : List (Nat × Obj)} {o o' : Obj} (h : OS w wA W p1 p s R) (hb : (p1, o) ∈ R) (hu : Upd (fun k => k = p1) W W') (ho : W'.heap[p1]? = some o') (hR : ∀ r ∈ R', r ∈ R ∧ r.1 ≠ p1) : OS w wA W' p1 p s ((p1, o') :: R') :=
  ⟨h.db.set hb hu ho hR, h.lowA, h.updA.trans hu (fun _ _ e => e)⟩
theorem OS.turn {S : Nat → Prop} (h : OS w wA W p1 p s R) (hu : Upd S W W') (hS : ∀ k, k < W.heap.size → S k → wA.heap.size ≤ k ∧ k ∉ s.blocks ∧ ∀ r ∈ R, r.1 ≠ k) (hwA : w.heap.size ≤ wA.heap.size) : OS w wA W' p1 p s R := by
  have hlt := h.db.bes.ins.lt
  refine ⟨⟨⟨h.db.bes.ins.upd hu (fun k hk e => (hS k (hlt k hk) e).2.1 hk), h.db.bes.pp, fun r hr => hu.get (h.db.bes.rows r hr) (fun e => (hS r.1 (lt_of_heap (h.db.bes.rows r hr)) e).2.2 r hr rfl), h.db.bes.out⟩, h.db.low, h.db.new, ?_⟩, h.lowA, ?_⟩
  · exact h.db.upd.trans hu (fun k hk e => by have := (hS k (Nat.lt_of_lt_of_le hk h.db.upd.size) e).1; omega)
  · exact h.updA.trans hu (fun k hk e => by have := (hS k (Nat.lt_of_lt_of_le hk h.updA.size) e).1; omega)
end

abbrev oB : ByteArray := { data := #[111] }
abbrev oN : ByteArray := oB ++ nameB
theorem oB_ok : PreOk oB := ⟨by kernel_rfl, by kernel_rfl, by decide⟩
abbrev O1 (y : VerA) : FileA := ⟨oN, encodeB y, (encodeB y).length⟩
theorem own_swap {y : VerA} (hy : okA y = true) (hg : y.gen = 1) : (swapP (newA 1048576) oB y).1 = 0 ∧ Fl 1048576 (swapP (newA 1048576) oB y).2 [O1 y] := by
  have hl := encA_len hy
  have h := ((Fl.new 1048576).swap (m := none) oB_ok rfl (fun x h => by cases h) hy (by rw [hg]; rfl) (fun f hf => by cases hf) (by decide)).1 (by simp [usedL]; omega)
  simpa [dropA] using h
theorem own_find {y : VerA} : (findP [O1 y] oN).map (·.data) = (some y).map encodeB := by
  unfold findP
  rw [List.find?_cons_of_pos (by rw [beq_bytes]; simp)]
  rfl

/-- The three bytes of State. -/
abbrev st3A : VerA := ⟨1, 0, 1, 0, 1, [1, 2, 3], []⟩
theorem st3_ok : okA st3A = true := by kernel_rfl
theorem st3_in : VerIn st3A := by
  refine ⟨?_, ?_, ?_, ?_, ?_, by decide, by decide, fun r hr => by cases hr⟩ <;> (unfold I64; decide)

def stateLen (y : VerA) : Nat := y.state.length
theorem okA_gen1 {y : VerA} (h : okA y = true) : okA { y with gen := 1 } = true := by
  unfold okA headA at h ⊢
  simp only [Bool.and_eq_true] at h ⊢
  simp [ins] at h ⊢
  obtain ⟨⟨⟨⟨⟨⟨⟨-, h2⟩, h3⟩, h4⟩, h5⟩, h6⟩, h7⟩, h8⟩ := h
  exact ⟨⟨⟨⟨⟨⟨h2, h3⟩, h4⟩, h5⟩, h6⟩, h7⟩, h8⟩

set_option maxRecDepth 100000 in
set_option maxHeartbeats 12800000 in
theorem versionOwn_walk {w : World} {va : Value} {x : VerA} (hT : TabIn w) (hv : VerAt w va x) (hin : VerIn x) :
    Calls Tryz.prog 3 #[va] w fun e w' => e = .returned (.bool true) ∧ Upd (fun _ => False) w w' := by
  have HV := hid hv; have HT := hid hT; have HIN := hid hin
  obtain ⟨s1, d1, s2, d2, rfl, -, -⟩ := hv
  obtain ⟨m1, hm1⟩ : ∃ m, m = x.state.length := ⟨_, rfl⟩
  obtain ⟨m2, hm2⟩ : ∃ m, m = x.runs.length := ⟨_, rfl⟩
  rw [← hm1, ← hm2] at HV ⊢
  have HU1 := hid ((Upd.refl (fun _ => False) w).alloc (.cells #[.int .i64 x.gen, .int .i64 x.flushed, .int .i64 x.next, .int .i64 x.low, .int .i64 x.clock, .slice s1 m1 d1, .slice s2 m2 d2] 25))
  have HROW := hid (heap_alloc_new w (.cells #[.int .i64 x.gen, .int .i64 x.flushed, .int .i64 x.next, .int .i64 x.low, .int .i64 x.clock, .slice s1 m1 d1, .slice s2 m2 d2] 25))
  have HLK := hid (show ∀ r ∈ x.runs, r.first.length ≤ 140737488351232 ∧ r.last.length ≤ 140737488351232 from fun r hr => (HIN.out.2.2.2.2.2.2.2 r hr).2.2.2.2.2.2)
  obtain ⟨p1, hp1⟩ : ∃ p, p = w.heap.size := ⟨_, rfl⟩
  rw [← hp1] at HROW
  have HP1 := hid hp1
  have HMS := hid (And.intro hm1 hm2)
  clear hT hin hm1 hm2 hp1
  go_enter Tryz.func3, Tryz.ntmps3
  go_upto_region 1 with fail
  rw [← HP1.out]
  generalize w.alloc (.cells #[.int .i64 x.gen, .int .i64 x.flushed, .int .i64 x.next, .int .i64 x.low, .int .i64 x.clock, .slice s1 m1 d1, .slice s2 m2 d2] 25) = W1 at HU1 HROW ⊢
  obtain ⟨⟨z0, z1, z2, z3, z4, z5, z6⟩, -, hzl⟩ := verCells HROW.out
  have HCH := hid (refCheck10_any (HV.out.keep HU1.out) HLK.out)
  obtain ⟨Rc, hRc⟩ : ∃ R, R = checkA x := ⟨_, rfl⟩
  rw [← hRc] at HCH
  have HRc := hid hRc
  clear hRc
  go_upto_if 31 with (go_at_call 10; refine HCH.out.mono ?_; rintro e W2 ⟨rfl, hu2⟩)
  have HU2 := hid (HU1.out.trans hu2 (fun _ _ e => e))
  have HRO2 := hid (hu2.get HROW.out (fun e => e))
  clear hu2 z0 z1 z2 z3 z4 z5 z6 hzl HCH
  go_cut [] (fun wx => ∃ (y : VerA) (a1 a2 : Option Addr) (b1 b2 : Nat), okA y = true ∧ VerIn y ∧ Upd (fun _ => False) w wx ∧ wx.heap[p1]? = some (.cells #[.int .i64 y.gen, .int .i64 y.flushed, .int .i64 y.next, .int .i64 y.low, .int .i64 y.clock, .slice a1 y.state.length b1, .slice a2 y.runs.length b2] 25 (0, 0)) ∧ ∀ W, Upd (fun k => k = p1) wx W → VerAt W (.agg #[.int .i64 y.gen, .int .i64 y.flushed, .int .i64 y.next, .int .i64 y.low, .int .i64 y.clock, .slice a1 y.state.length b1, .slice a2 y.runs.length b2]) y)
  case first =>
    by_cases hok : okA x = true
    · have HOK := hid hok
      obtain rfl : Rc = 0 := by rw [HRc.out]; unfold checkA; rw [if_pos hok]
      clear hok
      go_wp2
      go_meet
      refine ⟨x, s1, s2, d1, d2, HOK.out, HIN.out, HU2.out, by rw [← HMS.out.1, ← HMS.out.2]; exact HRO2.out, fun W hW => ?_⟩
      rw [← HMS.out.1, ← HMS.out.2]
      exact HV.out.keep (HU2.out.trans hW (fun k hk e => by have := HP1.out; omega))
    · have hok' : okA x = false := by simpa using hok
      obtain rfl : Rc = 101 := by rw [HRc.out]; unfold checkA; rw [hok']; rfl
      clear hok hok'
      go_wp2_with fail
      refine (lawFirst_any _).mono ?_
      rintro e W3 ⟨rfl, hu3⟩
      have HU3 := hid (HU2.out.trans hu3 (fun _ _ e => e))
      have HRO3 := hid (hu3.get HRO2.out (fun e => e))
      clear hu3
      obtain ⟨⟨z0, z1, z2, z3, z4, z5, z6⟩, ⟨y0, y1, y2, y3, y4, y5, y6⟩, hzl⟩ := verCells HRO3.out
      have HOUT := hid (And.intro (verOut_at HRO3.out 1 0 1 0 1 (.slice none 0 0) (.slice none 0 0)) (verOut_upd HU3.out (p := p1) (fun e => by have := HP1.out; omega) 1 0 1 0 1 (.slice none 0 0) (.slice none 0 0)))
      unfold verOut at HOUT
      go_upto_region 3 with fail
      generalize (((((((W3.setCell ⟨p1, 0, none⟩ (.int .i64 1)).setCell ⟨p1, 1, none⟩ (.int .i64 0)).setCell ⟨p1, 2, none⟩ (.int .i64 1)).setCell ⟨p1, 3, none⟩ (.int .i64 0)).setCell ⟨p1, 4, none⟩ (.int .i64 1)).setCell ⟨p1, 5, none⟩ (.slice none 0 0)).setCell ⟨p1, 6, none⟩ (.slice none 0 0)) = W4 at HOUT ⊢
      clear z0 z1 z2 z3 z4 z5 z6 y0 y1 y2 y3 y4 y5 y6 hzl
      obtain ⟨⟨z0, z1, z2, z3, z4, z5, z6⟩, ⟨y0, y1, y2, y3, y4, y5, y6⟩, hzl⟩ := verCells HOUT.out.1
      go_wp2
      go_meet
      have hne : W4.heap.size ≠ p1 := fun e => by have := lt_of_heap HOUT.out.1; omega
      have hset := heap_setCell_at W4 p1 5 _ _ (.slice (some ⟨W4.heap.size, 0, none⟩) 3 3) HOUT.out.1
      have hus := HOUT.out.2.setCell (p := ⟨p1, 5, none⟩) (fun e => by have := HP1.out; simp only at e; omega) (.slice (some ⟨W4.heap.size, 0, none⟩) 3 3)
      have hnew := heap_alloc_new (W4.setCell ⟨p1, 5, none⟩ (.slice (some ⟨W4.heap.size, 0, none⟩) 3 3)) (.cells #[.int .u8 1, .int .u8 2, .int .u8 3] 5)
      rw [World.size_setCell] at hnew
      have hpast := heap_alloc_past (W4.setCell ⟨p1, 5, none⟩ (.slice (some ⟨W4.heap.size, 0, none⟩) 3 3)) (.cells #[.int .u8 1, .int .u8 2, .int .u8 3] 5) p1 (lt_of_heap hset)
      refine ⟨st3A, some ⟨W4.heap.size, 0, none⟩, none, 3, 0, st3_ok, st3_in, hus.alloc _, by rw [hpast, hset]; simp [verC], fun W hW => ?_⟩
      have hdat : DataIs W (.slice (some ⟨W4.heap.size, 0, none⟩) 3 3) [1, 2, 3] :=
        .inr ⟨W4.heap.size, 3, #[.int .u8 1, .int .u8 2, .int .u8 3], rfl, hW.get hnew hne, by decide, by simp, by decide, rfl⟩
      exact ⟨_, _, _, _, rfl, hdat.bat, none, 0, rfl, by simp, by simp, fun k hk => absurd hk (by simp)⟩
  case rest =>
    obtain ⟨y0, a1, a2, b1, b2, hok0, hin0, hua, hrow0, hva0⟩ := hcut
    have HOK0 := hid hok0; have HIN0 := hid hin0; have HUA := hid hua; have HROW0 := hid hrow0; have HVA0 := hid hva0
    obtain ⟨wA, rfl⟩ : ∃ wA, wA = wc := ⟨_, rfl⟩
    clear hok0 hin0 hua hrow0 hva0
    have HNW := hid (new_yes wA 1048576 (by omega))
    obtain ⟨⟨z0, z1, z2, z3, z4, z5, z6⟩, -, hzl⟩ := verCells HROW0.out
    obtain ⟨g1, hg1⟩ : ∃ k, k = y0.gen := ⟨_, rfl⟩
    obtain ⟨g2, hg2⟩ : ∃ k, k = y0.flushed := ⟨_, rfl⟩
    obtain ⟨g3, hg3⟩ : ∃ k, k = y0.next := ⟨_, rfl⟩
    obtain ⟨g4, hg4⟩ : ∃ k, k = y0.low := ⟨_, rfl⟩
    obtain ⟨g5, hg5⟩ : ∃ k, k = y0.clock := ⟨_, rfl⟩
    obtain ⟨g6, hg6⟩ : ∃ k, k = y0.state.length := ⟨_, rfl⟩
    obtain ⟨g7, hg7⟩ : ∃ k, k = y0.runs.length := ⟨_, rfl⟩
    rw [← hg1, ← hg2, ← hg3, ← hg4, ← hg5, ← hg6, ← hg7] at HROW0 HVA0
    clear z0 z1 z2 z3 z4 z5 z6 hzl hg1 hg2 hg3 hg4 hg5 hg6 hg7
    go_wp2_with fail
    refine HNW.out.mono ?_
    rintro e w1 ⟨s, rfl, hs, habs, hblk, hu⟩
    have HOS1 := hid (show OS w wA w1 p1 s.p s [(p1, .cells #[.int .i64 g1, .int .i64 g2, .int .i64 g3, .int .i64 g4, .int .i64 g5, .slice a1 g6 b1, .slice a2 g7 b2] 25 (0, 0))] from ⟨(DB.start hs (fun k hk => Nat.le_trans HUA.out.size (hblk k hk)) (HUA.out.trans hu (fun _ _ e => e))).add (hu.get HROW0.out (fun e => e)) (by rw [HP1.out]; exact Nat.le_refl _) (fun e => by have h1 := hblk p1 e; have h2 := lt_of_heap HROW0.out; omega), hblk, hu.mono (fun _ _ e => e.elim)⟩)
    have HABS := hid habs
    obtain ⟨p, hp⟩ : ∃ p, p = s.p := ⟨_, rfl⟩
    rw [← hp] at HOS1 ⊢
    clear hs habs hblk hu hp HNW
    go_wp2_with fail
    refine (lawNum_any _ _ (by omega)).mono ?_
    rintro e W ⟨rfl, hww⟩
    obtain rfl := hww.symm
    have hrow1 := HOS1.out.db.row (List.mem_singleton.2 rfl)
    obtain ⟨⟨z0, z1, z2, z3, z4, z5, z6⟩, -, hzl⟩ := verCells hrow1
    have HLK0 := hid (show ∀ r ∈ y0.runs, r.first.length ≤ 140737488351232 ∧ r.last.length ≤ 140737488351232 from fun r hr => (HIN0.out.2.2.2.2.2.2.2 r hr).2.2.2.2.2.2)
    obtain ⟨y, hy⟩ : ∃ y, y = followA y0 1 := ⟨_, rfl⟩
    have hye : y = { y0 with gen := 1 } := by rw [hy]; unfold followA; rw [if_pos (okA_gen1 HOK0.out)]
    have HFOL := hid (fun (W : World) (hW : Upd (fun k => k = p1) wA W) => follow_any (g := 1) (HVA0.out W hW) HLK0.out (by decide))
    rw [← hy] at HFOL
    have HOKY := hid (show okA y = true from by rw [hye]; exact okA_gen1 HOK0.out)
    have HGY := hid (show y.gen = 1 from by rw [hye])
    have HINY := hid (show VerIn y from by rw [hye]; obtain ⟨-, h2, h3, h4, h5, h6, h7, h8⟩ := HIN0.out; exact ⟨show I64 1 from by unfold I64; decide, h2, h3, h4, h5, h6, h7, h8⟩)
    have HCY := hid (show ∀ r ∈ y.runs, r.count ≤ 9223372036854775807 from fun r hr => (HINY.out.2.2.2.2.2.2.2 r hr).2.1.2)
    have HLKY := hid (show ∀ r ∈ y.runs, r.first.length ≤ 140737488351232 ∧ r.last.length ≤ 140737488351232 from fun r hr => (HINY.out.2.2.2.2.2.2.2 r hr).2.2.2.2.2.2)
    clear hrow1 hy hye
    go_wp2_with fail
    refine (HFOL.out _ HOS1.out.updA).mono ?_
    rintro e w2 ⟨v2, rfl, hva2, hu2⟩
    have HOS2 := hid (HOS1.out.quiet hu2)
    have HVA2 := hid (hva2 w2 (HVA0.out w2 HOS2.out.updA))
    have HSW := hid (swap_any (HT.out.keep HOS2.out.db.upd) HOS2.out.db.bes.ins (HOS2.out.db.zero HT.out) oB (by decide) HVA2.out HLKY.out)
    rw [HABS.out, (own_swap HOKY.out HGY.out).1, HOS2.out.db.bes.pp] at HSW
    clear hva2 hu2 z0 z1 z2 z3 z4 z5 z6 hzl
    go_wp2_with fail
    refine HSW.out.mono ?_
    rintro e w3 ⟨rfl, s3, hst3, habs3⟩
    have HOS3 := hid (HOS2.out.step hst3)
    have HFL3 := hid (show Fl 1048576 s3.abs [O1 y] from by rw [habs3]; exact (own_swap HOKY.out HGY.out).2)
    clear hst3 habs3 HSW HABS HOS1 HOS2 HVA2
    go_wp2_with fail
    refine (lawNum_any _ _ (by omega)).mono ?_
    rintro e W ⟨rfl, hww⟩
    obtain rfl := hww.symm
    have hrow3 := HOS3.out.db.row (List.mem_singleton.2 rfl)
    obtain ⟨⟨z0, z1, z2, z3, z4, z5, z6⟩, ⟨f0, f1, f2, f3, f4, f5, f6⟩, hzl⟩ := verCells hrow3
    clear hrow3
    go_wp2_with fail
    refine (HFOL.out _ HOS3.out.updA).mono ?_
    rintro e w4 ⟨v4, rfl, hva4, hu4⟩
    have HOS4 := hid (HOS3.out.quiet hu4)
    have hva4' := hva4 w4 (HVA0.out w4 HOS4.out.updA)
    obtain ⟨t1, c1, t2, c2, hv4e, -, -⟩ := hva4'
    have HVY := hid (show ∀ W, Upd (fun k => k = p1) wA W → VerAt W v4 y from fun W hW => hva4 W (HVA0.out W hW))
    obtain ⟨y1, hy1⟩ : ∃ k, k = y.gen := ⟨_, rfl⟩
    obtain ⟨y2, hy2⟩ : ∃ k, k = y.flushed := ⟨_, rfl⟩
    obtain ⟨y3, hy3⟩ : ∃ k, k = y.next := ⟨_, rfl⟩
    obtain ⟨y4, hy4⟩ : ∃ k, k = y.low := ⟨_, rfl⟩
    obtain ⟨y5, hy5⟩ : ∃ k, k = y.clock := ⟨_, rfl⟩
    obtain ⟨k1, hk1⟩ : ∃ k, k = y.state.length := ⟨_, rfl⟩
    obtain ⟨k2, hk2⟩ : ∃ k, k = y.runs.length := ⟨_, rfl⟩
    rw [← hy1, ← hy2, ← hy3, ← hy4, ← hy5, ← hk1, ← hk2] at hv4e
    subst hv4e
    have HYS := hid (show y1 = y.gen ∧ y2 = y.flushed ∧ y3 = y.next ∧ y4 = y.low ∧ y5 = y.clock ∧ k1 = y.state.length ∧ k2 = y.runs.length from ⟨hy1, hy2, hy3, hy4, hy5, hk1, hk2⟩)
    have hrow4 := HOS4.out.db.row (List.mem_singleton.2 rfl)
    clear hva4 hu4 z0 z1 z2 z3 z4 z5 z6 f0 f1 f2 f3 f4 f5 f6 hzl hy1 hy2 hy3 hy4 hy5 hk1 hk2
    obtain ⟨⟨z0, z1, z2, z3, z4, z5, z6⟩, ⟨f0, f1, f2, f3, f4, f5, f6⟩, hzl⟩ := verCells hrow4
    have HOUT := hid (And.intro (verOut_at hrow4 y1 y2 y3 y4 y5 (.slice t1 k1 c1) (.slice t2 k2 c2)) (verOut_upd (S := fun k => k = p1) (Upd.refl _ w4) (p := p1) (fun _ => rfl) y1 y2 y3 y4 y5 (.slice t1 k1 c1) (.slice t2 k2 c2)))
    have HOS5 := hid (HOS4.out.set (R' := []) (List.mem_singleton.2 rfl) HOUT.out.2 HOUT.out.1 (fun r hr => by cases hr))
    unfold verOut at HOS5
    clear hrow4 HOUT
    go_upto_region 8 with fail
    generalize (((((((w4.setCell ⟨p1, 0, none⟩ (.int .i64 y1)).setCell ⟨p1, 1, none⟩ (.int .i64 y2)).setCell ⟨p1, 2, none⟩ (.int .i64 y3)).setCell ⟨p1, 3, none⟩ (.int .i64 y4)).setCell ⟨p1, 4, none⟩ (.int .i64 y5)).setCell ⟨p1, 5, none⟩ (.slice t1 k1 c1)).setCell ⟨p1, 6, none⟩ (.slice t2 k2 c2)) = w5 at HOS5 ⊢
    clear z0 z1 z2 z3 z4 z5 z6 f0 f1 f2 f3 f4 f5 f6 hzl HOS3 HOS4
    have hrow5 := HOS5.out.db.row (List.mem_singleton.2 rfl)
    obtain ⟨⟨z0, z1, z2, z3, z4, z5, z6⟩, -, hzl⟩ := verCells hrow5
    have HCO := hid (copied_any (HVY.out w5 HOS5.out.updA) HINY.out)
    clear hrow5
    go_wp2_with fail
    refine HCO.out.mono ?_
    rintro e w6 ⟨v6, rfl, hown6, hu6⟩
    have HOS6 := hid (HOS5.out.quiet hu6)
    have HW6 := hid hown6
    have HU65 := hid hu6.size
    have HN8 := hid (show ∀ k ∈ s3.blocks, k < w5.heap.size from HOS5.out.db.bes.ins.lt)
    obtain ⟨o1, r1, o2, r2, hv6e, -, -⟩ := hown6.at
    obtain ⟨q1, q2, q3, q4, q5, q6, q7⟩ := HYS.out
    rw [← q1, ← q2, ← q3, ← q4, ← q5, ← q6, ← q7] at hv6e
    subst hv6e
    clear q1 q2 q3 q4 q5 q6 q7 hown6 hu6 z0 z1 z2 z3 z4 z5 z6 hzl HCO
    go_upto_region 9 with fail
    have HOS7 := hid (HOS6.out.push (.cells #[.int .i64 y1, .int .i64 y2, .int .i64 y3, .int .i64 y4, .int .i64 y5, .slice o1 k1 r1, .slice o2 k2 r2] 25))
    have HW7 := hid (HW6.out.keep ((Upd.refl (fun _ => False) w6).alloc (.cells #[.int .i64 y1, .int .i64 y2, .int .i64 y3, .int .i64 y4, .int .i64 y5, .slice o1 k1 r1, .slice o2 k2 r2] 25)) (fun k e => e.elim))
    have HS76 := hid (show w5.heap.size ≤ (w6.alloc (.cells #[.int .i64 y1, .int .i64 y2, .int .i64 y3, .int .i64 y4, .int .i64 y5, .slice o1 k1 r1, .slice o2 k2 r2] 25)).heap.size from by rw [World.size_alloc]; have := HU65.out; omega)
    obtain ⟨p5, hp5⟩ : ∃ q, q = w6.heap.size := ⟨_, rfl⟩
    rw [← hp5] at HOS7 ⊢
    generalize w6.alloc (.cells #[.int .i64 y1, .int .i64 y2, .int .i64 y3, .int .i64 y4, .int .i64 y5, .slice o1 k1 r1, .slice o2 k2 r2] 25) = w7 at HOS7 HW7 HS76 ⊢
    clear hp5 HOS5 HOS6 HW6
    have HWK := hid HW7.out
    have HU7 := hid (Upd.refl (· ∈ s3.blocks) w7)
    have HA7 := hid HOS7.out.updA.size
    have hrow7 := HOS7.out.db.row (b := p1) (List.mem_cons_of_mem _ (List.mem_singleton.2 rfl))
    obtain ⟨⟨z0, z1, z2, z3, z4, z5, z6⟩, -, hzl⟩ := verCells hrow7
    have HEN := hid (encode_any (HT.out.keep HOS7.out.db.upd) (HVY.out w7 HOS7.out.updA) HOKY.out)
    have HLE := hid (encA_len HOKY.out)
    clear hrow7
    go_wp2_with fail
    refine HEN.out.mono ?_
    rintro e w8 ⟨v8, rfl, hn8⟩
    obtain ⟨E, hE⟩ : ∃ E, E = encodeB y := ⟨_, rfl⟩
    rw [← hE] at hn8 HLE
    obtain ⟨g8, c8, hv8⟩ : ∃ g c, v8 = .slice (some ⟨g, 0, none⟩) E.length c := by
      rcases hn8.data with ⟨-, h⟩ | ⟨g, c, cur, e, -⟩
      · have := HLE.out.2; rw [h] at this; simp at this
      · exact ⟨g, c, e⟩
    subst hv8
    obtain ⟨N, hN⟩ : ∃ N, N = E.length := ⟨_, rfl⟩
    rw [← hN] at hn8 HLE ⊢
    have HE := hid hE; have HN := hid hN
    have HOS8 := hid (HOS7.out.quiet hn8.upd)
    have HW8 := hid (HW7.out.keep hn8.upd (fun k e => e.elim))
    have HU7 := hid (HU7.out.trans hn8.upd (fun _ _ e => e.elim))
    have HB8 := hid hn8.data
    have HG8 := hid (show w7.heap.size ≤ g8 from hn8.new g8 rfl)
    have HNB := hid (show 20 ≤ N ∧ N ≤ 400000 from ⟨HLE.out.2, HLE.out.1⟩)
    have HPT := hid (refPart_any (b := E) (w := w8) (ao := some ⟨g8, 0, none⟩) (cap := c8) (by rw [← hN]; exact hn8.data.bat) (lo := 0) (hi := E.length) (by omega) (by omega) (by have := HNB.out; omega))
    rw [← hN] at HPT
    clear hn8 hE hN z0 z1 z2 z3 z4 z5 z6 hzl HEN HOS7 HW7 HLE
    go_wp2_with fail
    refine HPT.out.mono ?_
    rintro e w9 ⟨vt, rfl, hnt⟩
    rw [List.drop_zero, Nat.sub_zero, show E.take N = E from by rw [HN.out, List.take_length]] at hnt
    obtain ⟨gt, ct, hvt⟩ : ∃ g c, vt = .slice (some ⟨g, 0, none⟩) E.length c := by
      rcases hnt.data with ⟨-, h⟩ | ⟨g, c, cur, e, -⟩
      · have h1 := HNB.out; have h2 := HN.out; rw [h] at h2; simp at h2; omega
      · exact ⟨g, c, e⟩
    subst hvt
    rw [← HN.out] at hnt ⊢
    have HOS9 := hid (HOS8.out.quiet hnt.upd)
    have HW9 := hid (HW8.out.keep hnt.upd (fun k e => e.elim))
    have HU7 := hid (HU7.out.trans hnt.upd (fun _ _ e => e.elim))
    have HTK := hid hnt.data
    have HU9 := hid (Upd.refl (· ∈ s3.blocks) w9)
    have HB9 := hid (HB8.out.upd hnt.upd (fun _ _ e => e))
    have HT9 := hid hnt.data
    have HGT := hid (show g8 < gt from by have h1 := HB8.out.lt g8 rfl; have h2 := hnt.new gt rfl; omega)
    have HS97 := hid (show w5.heap.size ≤ w9.heap.size from by have h1 := HG8.out; have h2 := HB9.out.lt g8 rfl; have h3 := HS76.out; omega)
    have HDC := hid (decode_any (w := w9) (HT.out.keep HOS9.out.db.upd) HB9.out.bat (by rw [← HN.out]; have := HNB.out; omega))
    rw [HE.out, decode_encode HOKY.out HCY.out] at HDC
    clear hnt HPT HOS8 HW8 HB8
    go_wp2_with fail
    refine HDC.out.mono ?_
    rintro e w10 ⟨⟨v10, rfl, hown10⟩, hu10⟩
    have HOS10 := hid (HOS9.out.quiet hu10)
    have HW10 := hid (HW9.out.keep hu10 (fun k e => e.elim))
    have HU7 := hid (HU7.out.trans hu10 (fun _ _ e => e.elim))
    have HU9 := hid (HU9.out.trans hu10 (fun _ _ e => e.elim))
    have HB10 := hid (HB9.out.upd hu10 (fun _ _ e => e))
    have HT10 := hid (HT9.out.upd hu10 (fun _ _ e => e))
    have HX10 := hid (VerOwnT.of hown10)
    have HS10 := hid (show ∀ k, k < w10.heap.size → k < w10.heap.size + 1 from fun k hk => by omega)
    have HS109 := hid hu10.size
    have HG9 := hid (show gt < w9.heap.size from HT9.out.lt gt rfl)
    obtain ⟨o3, r3, o4, r4, hv10e, -, -⟩ := hown10.at
    obtain ⟨q1, q2, q3, q4, q5, q6, q7⟩ := HYS.out
    rw [← q1, ← q2, ← q3, ← q4, ← q5, ← q6, ← q7] at hv10e
    subst hv10e
    clear q1 q2 q3 q4 q5 q6 q7 hown10 hu10 HDC HOS9 HW9 HB9 HT9
    go_upto_region 12 with fail
    have HUP := hid ((Upd.refl (fun _ => False) w10).alloc (.cells #[.int .i64 y1, .int .i64 y2, .int .i64 y3, .int .i64 y4, .int .i64 y5, .slice o3 k1 r3, .slice o4 k2 r4] 25))
    have HOS11 := hid (HOS10.out.push (.cells #[.int .i64 y1, .int .i64 y2, .int .i64 y3, .int .i64 y4, .int .i64 y5, .slice o3 k1 r3, .slice o4 k2 r4] 25))
    have HW11 := hid (HW10.out.keep HUP.out (fun k e => e.elim))
    have HU7 := hid (HU7.out.trans HUP.out (fun _ _ e => e.elim))
    have HU9 := hid (HU9.out.trans HUP.out (fun _ _ e => e.elim))
    have HB11 := hid (HB10.out.upd HUP.out (fun _ _ e => e))
    have HT11 := hid (HT10.out.upd HUP.out (fun _ _ e => e))
    have HX11 := hid (HX10.out.keep HUP.out (fun k e => e.elim))
    have HS119 := hid (Nat.le_trans HS109.out HUP.out.size)
    have HS1110 := hid HUP.out.size
    obtain ⟨p9, hp9⟩ : ∃ q, q = w10.heap.size := ⟨_, rfl⟩
    rw [← hp9] at HOS11 ⊢
    generalize w10.alloc (.cells #[.int .i64 y1, .int .i64 y2, .int .i64 y3, .int .i64 y4, .int .i64 y5, .slice o3 k1 r3, .slice o4 k2 r4] 25) = w11 at HOS11 HW11 HB11 HT11 HX11 HS119 HS1110 HU7 HU9 ⊢
    clear hp9 HUP HOS10 HW10 HB10 HT10 HX10
    have HGOOD := hid (show GoodM (some y) from by
      intro x' hx'
      obtain rfl : y = x' := by simpa using hx'
      exact ⟨HOKY.out, HCY.out⟩)
    have HLO := hid (load_own (HT.out.keep HOS11.out.db.upd) HOS11.out.db.bes.ins (HOS11.out.db.zero HT.out) oB (by decide))
    rw [(HFL3.out.load oB_ok own_find HGOOD.out).1, HOS11.out.db.bes.pp] at HLO
    go_wp2_with fail
    refine HLO.out.mono ?_
    rintro e w12 ⟨⟨v12, rfl, hown12⟩, s12, hst12, habs12, hbl12⟩
    have HOS12 := hid (HOS11.out.step hst12)
    have hn8 : ∀ k ∈ s3.blocks, k < w5.heap.size := HN8.out
    have HW12 := hid (HW11.out.keep hst12.upd hn8)
    have HU7 := hid (HU7.out.trans hst12.upd (fun _ _ e => e))
    have HU9 := hid (HU9.out.trans hst12.upd (fun _ _ e => e))
    have HX12 := hid (HX11.out.keep hst12.upd (fun k hk => Nat.lt_of_lt_of_le (hn8 k hk) HS97.out))
    have hdk : ∀ k, w7.heap.size ≤ k → k ∉ s3.blocks := fun k hk e => by have h1 := hn8 k e; have h2 := HS76.out; omega
    have HB12 := hid (HB11.out.upd hst12.upd (fun k hk e => hdk k (by have h1 : g8 = k := by simpa [Value.ownBlock] using hk
                                                                      have := HG8.out; omega) e))
    have HT12 := hid (HT11.out.upd hst12.upd (fun k hk e => hdk k (by have h1 : gt = k := by simpa [Value.ownBlock] using hk
                                                                      have := HG8.out; have := HGT.out; omega) e))
    have HFL12 := hid (show Fl 1048576 s12.abs [O1 y] from by rw [habs12]; exact (HFL3.out.load oB_ok own_find HGOOD.out).2)
    have HBL12 := hid hbl12
    have HY12 := hid (VerOwnT.of hown12)
    have HS1211 := hid hst12.upd.size
    obtain ⟨o5, r5, o6, r6, hv12e, -, -⟩ := hown12.at
    obtain ⟨q1, q2, q3, q4, q5, q6, q7⟩ := HYS.out
    rw [← q1, ← q2, ← q3, ← q4, ← q5, ← q6, ← q7] at hv12e
    subst hv12e
    clear q1 q2 q3 q4 q5 q6 q7 hown12 hst12 habs12 hbl12 hn8 hdk HLO HOS11 HW11 HX11 HB11 HT11
    go_upto_region 13 with fail
    have HUP := hid ((Upd.refl (fun _ => False) w12).alloc (.cells #[.int .i64 y1, .int .i64 y2, .int .i64 y3, .int .i64 y4, .int .i64 y5, .slice o5 k1 r5, .slice o6 k2 r6] 25))
    have HOS13 := hid (HOS12.out.push (.cells #[.int .i64 y1, .int .i64 y2, .int .i64 y3, .int .i64 y4, .int .i64 y5, .slice o5 k1 r5, .slice o6 k2 r6] 25))
    have HW13 := hid (HW12.out.keep HUP.out (fun k e => e.elim))
    have HU7 := hid (HU7.out.trans HUP.out (fun _ _ e => e.elim))
    have HU9 := hid (HU9.out.trans HUP.out (fun _ _ e => e.elim))
    have HB13 := hid (HB12.out.upd HUP.out (fun _ _ e => e))
    have HT13 := hid (HT12.out.upd HUP.out (fun _ _ e => e))
    have HX13 := hid (HX12.out.keep HUP.out (fun k e => e.elim))
    have HY13 := hid (HY12.out.keep HUP.out (fun k e => e.elim))
    have HXL := hid (show ∀ k, k < w12.heap.size → k < (w12.alloc (.cells #[.int .i64 y1, .int .i64 y2, .int .i64 y3, .int .i64 y4, .int .i64 y5, .slice o5 k1 r5, .slice o6 k2 r6] 25)).heap.size from fun k hk => Nat.lt_of_lt_of_le hk HUP.out.size)
    obtain ⟨p11, hp11⟩ : ∃ q, q = w12.heap.size := ⟨_, rfl⟩
    rw [← hp11] at HOS13 ⊢
    generalize w12.alloc (.cells #[.int .i64 y1, .int .i64 y2, .int .i64 y3, .int .i64 y4, .int .i64 y5, .slice o5 k1 r5, .slice o6 k2 r6] 25) = w13 at HOS13 HW13 HB13 HT13 HX13 HY13 HXL HU7 HU9 ⊢
    clear hp11 HUP HOS12 HW12 HB12 HT12 HX12 HY12
    have HR9 := hid (HOS13.out.db.row (b := p9) (List.mem_cons_of_mem _ (List.mem_cons_self ..)))
    have HR11 := hid (HOS13.out.db.row (b := p11) (List.mem_cons_self ..))
    obtain ⟨stX, rsX, LX, eX, hx1, hx2, hx3, hx4, hx5, hx6, hx7⟩ := HX13.out.ex
    obtain ⟨stY, rsY, LY, eY, hw1, hw2, hw3, hw4, hw5, hw6, hw7⟩ := HY13.out.ex
    simp only [Value.agg.injEq, Array.mk.injEq, List.cons.injEq, and_true] at eX eY
    obtain ⟨-, -, -, -, -, eX1, eX2⟩ := eX
    obtain ⟨-, -, -, -, -, eY1, eY2⟩ := eY
    subst eX1; subst eX2; subst eY1; subst eY2
    have hrl : y.runs.length ≤ 64 := by
      have h1 := okA_head HOKY.out
      simp [headA, ins] at h1
      omega
    have HLX := hid (show LX.length ≤ 64 from by rw [hx3, List.length_map] at hrl; exact hrl)
    have HLY := hid (show LY.length ≤ 64 from by rw [hw3, List.length_map] at hrl; exact hrl)
    have shp : ∀ (L : List MV), RunsOwn w13 0 (.slice none 0 0) [] ∨ True := fun _ => .inr trivial
    have keysh : ∀ {v : Value} {bs : List UInt8}, DataIs w13 v bs → ∃ fo fn fc, v = .slice fo fn fc := fun h => by obtain ⟨ao, cap, e, -⟩ := h.shape; exact ⟨ao, _, cap, e⟩
    have HPX := hid (fun (W : World) (hW : Upd (fun _ => False) w13 W) => parts_any (a1 := y1) (a2 := y2) (a3 := y3) (a4 := y4) (a5 := y5) (so := o3) (sn := k1) (sc := r3) (owns_upd hx2.row hW (fun _ _ e => e)) (fun z hz => by
      obtain ⟨q1, q2⟩ := hx2.data z hz
      obtain ⟨u1, u2, u3, e1⟩ := keysh q1
      obtain ⟨u4, u5, u6, e2⟩ := keysh q2
      exact ⟨u1, u2, u3, u4, u5, u6, e1, e2⟩) HLX.out)
    have HPY := hid (fun (W : World) (hW : Upd (fun _ => False) w13 W) => parts_any (a1 := y1) (a2 := y2) (a3 := y3) (a4 := y4) (a5 := y5) (so := o5) (sn := k1) (sc := r5) (owns_upd hw2.row hW (fun _ _ e => e)) (fun z hz => by
      obtain ⟨q1, q2⟩ := hw2.data z hz
      obtain ⟨u1, u2, u3, e1⟩ := keysh q1
      obtain ⟨u4, u5, u6, e2⟩ := keysh q2
      exact ⟨u1, u2, u3, u4, u5, u6, e1, e2⟩) HLY.out)
    have HOC := hid (show ∀ u ∈ (Value.slice o5 k1 r5 :: LY.flatMap MV.keys), u.oneCell' = true from by
      intro u hu
      rcases List.mem_cons.1 hu with rfl | hu
      · rfl
      · obtain ⟨z, hz, hu⟩ := List.mem_flatMap.1 hu
        obtain ⟨q1, q2⟩ := hw2.data z hz
        obtain ⟨u1, u2, u3, e1⟩ := keysh q1
        obtain ⟨u4, u5, u6, e2⟩ := keysh q2
        simp only [MV.keys, List.mem_cons, List.not_mem_nil, or_false] at hu
        rcases hu with rfl | rfl
        · rw [e1]; rfl
        · rw [e2]; rfl)
    have HX1 := hid hx1; have HX2 := hid hx2; have HX3 := hid hx3; have HX4 := hid hx4; have HX5 := hid hx5; have HX6 := hid hx6; have HX7 := hid hx7
    have HY1 := hid hw1; have HY2 := hid hw2; have HY3 := hid hw3; have HY4 := hid hw4; have HY5 := hid hw5; have HY6 := hid hw6; have HY7 := hid hw7
    clear hx1 hx2 hx3 hx4 hx5 hx6 hx7 hw1 hw2 hw3 hw4 hw5 hw6 hw7 shp keysh hrl
    go_cut [14] (fun lvv wx => ∃ ao n c, lvv = .slice ao n c ∧ n = 1 + 2 * LX.length + (1 + 2 * LY.length) + 1 ∧ SRow wx 22 1 (.slice ao n c) n ((Value.slice o3 k1 r3 :: LX.flatMap MV.keys) ++ (Value.slice o5 k1 r5 :: LY.flatMap MV.keys) ++ [Value.slice (some ⟨g8, 0, none⟩) N c8]) ∧ (∀ q, (Value.slice ao n c).ownBlock = some q → w13.heap.size ≤ q) ∧ Upd (fun _ => False) w13 wx)
    case first =>
      have hHeld : (fun V => V.heap[p9]? = some (.cells #[.int .i64 y1, .int .i64 y2, .int .i64 y3, .int .i64 y4, .int .i64 y5, .slice o3 k1 r3, .slice o4 k2 r4] 25 (0, 0)) ∧ V.heap[p11]? = some (.cells #[.int .i64 y1, .int .i64 y2, .int .i64 y3, .int .i64 y4, .int .i64 y5, .slice o5 k1 r5, .slice o6 k2 r6] 25 (0, 0))) w13.drew := ⟨HR9.out, HR11.out⟩
      have HUv0 := hid (show Upd (fun _ => False) w13 w13.drew from (Upd.refl _ _).drew)
      refine wp_region_l (fun V => V.heap[p9]? = some (.cells #[.int .i64 y1, .int .i64 y2, .int .i64 y3, .int .i64 y4, .int .i64 y5, .slice o3 k1 r3, .slice o4 k2 r4] 25 (0, 0)) ∧ V.heap[p11]? = some (.cells #[.int .i64 y1, .int .i64 y2, .int .i64 y3, .int .i64 y4, .int .i64 y5, .slice o5 k1 r5, .slice o6 k2 r6] 25 (0, 0))) 8 9 rfl (by as_aux_lemma => kernel_rfl) ?_
      generalize w13.drew = v0 at hHeld HUv0 ⊢
      refine' wpAnyL_take 0 [1, 4, 7, 8] (v := _) rfl (by as_aux_lemma => kernel_rfl) (by as_aux_lemma => kernel_rfl) (by as_aux_lemma => kernel_rfl) (by as_aux_lemma => kernel_rfl) (by simp) (fun _ _ _ h => h) (Or.inl ⟨by rfl, ?h0⟩) (by assumption) ?r0
      case h0 => (intro wS hSw; obtain ⟨b9, b11⟩ := hSw; obtain ⟨⟨z0, z1, z2, z3, z4, z5, z6⟩, -, -⟩ := verCells b9; go_simp; (try with_reducible rfl))
      (try simp only [Act.put, List.setIfInBounds_toArray, List.set_cons_zero, List.set_cons_succ])
      refine' wpAnyL_take 2 [3, 4, 7, 8] (v := _) rfl (by as_aux_lemma => kernel_rfl) (by as_aux_lemma => kernel_rfl) (by as_aux_lemma => kernel_rfl) (by as_aux_lemma => kernel_rfl) (by simp) (fun _ _ _ h => h) (Or.inl ⟨by rfl, ?h2⟩) (by assumption) ?r2
      case h2 => (intro wS hSw; obtain ⟨b9, b11⟩ := hSw; obtain ⟨⟨z0, z1, z2, z3, z4, z5, z6⟩, -, -⟩ := verCells b11; go_simp; (try with_reducible rfl))
      (try simp only [Act.put, List.setIfInBounds_toArray, List.set_cons_zero, List.set_cons_succ])
      refine' wpAnyL_take 5 [6, 7, 8] (v := _) rfl (by as_aux_lemma => kernel_rfl) (by as_aux_lemma => kernel_rfl) (by as_aux_lemma => kernel_rfl) (by as_aux_lemma => kernel_rfl) (by simp) (fun _ _ _ h => h) (Or.inl ⟨by rfl, ?h5⟩) (by assumption) ?r5
      case h5 => (intro wS hSw; skip; go_simp; (try with_reducible rfl))
      (try simp only [Act.put, List.setIfInBounds_toArray, List.set_cons_zero, List.set_cons_succ])
      clear hHeld
      refine wpAnyL_two 1 6 rfl rfl (by as_aux_lemma => kernel_rfl) (fun K hK => ?_) (fun K hK => ?_)
      · go_simp
        go_at_call 21
        refine (HPX.out v0 HUv0.out).mono ?_
        rintro e v1 ⟨aoX, cX, rfl, hX, hoX, huX⟩
        have HUv1 := hid (HUv0.out.trans huX (fun _ _ e => e))
        have HFX := hid hX
        have HOX := hid (show ∀ q, (Value.slice aoX (1 + 2 * LX.length) cX).ownBlock = some q → w13.heap.size ≤ q from fun q e => Nat.le_trans HUv0.out.size (hoX q e))
        clear hX hoX huX
        refine hK.out _ _ (fun _ => ⟨HUv1.out.get HR9.out (fun e => e), HUv1.out.get HR11.out (fun e => e)⟩) ?_
        clear hK K
        (try simp only [Act.put, List.setIfInBounds_toArray, List.set_cons_zero, List.set_cons_succ])
        refine wpAnyL_two 3 6 rfl rfl (by as_aux_lemma => kernel_rfl) (fun K hK => ?_) (fun K hK => ?_)
        · as_aux_lemma =>
          go_simp
          go_at_call 21
          refine (HPY.out v1 HUv1.out).mono ?_
          rintro e v2 ⟨aoY, cY, rfl, hY, hoY, huY⟩
          have HUv2 := hid (HUv1.out.trans huY (fun _ _ e => e))
          have HFX := hid (SRow.upd HFX.out huY (fun _ _ e => e))
          have HFY := hid hY
          have HOY := hid (show ∀ q, (Value.slice aoY (1 + 2 * LY.length) cY).ownBlock = some q → w13.heap.size ≤ q from fun q e => Nat.le_trans HUv1.out.size (hoY q e))
          clear hY hoY huY
          refine hK.out _ _ (fun _ => ⟨HUv2.out.get HR9.out (fun e => e), HUv2.out.get HR11.out (fun e => e)⟩) ?_
          clear hK K
          (try simp only [Act.put, List.setIfInBounds_toArray, List.set_cons_zero, List.set_cons_succ])
          refine wpAnyL_two 4 6 rfl rfl (by as_aux_lemma => kernel_rfl) (fun K hK => ?_) (fun K hK => ?_)
          · obtain ⟨vJ, v3, hrunJ, hJ, huJ, hoJ⟩ := rowLists.join HFX.out HFY.out (fun u hu => HOC.out u hu) (by have h1 := HLX.out; have h2 := HLY.out; omega) 43
            obtain ⟨aoJ, cJ, hvJ, -, -, -⟩ := SRow.slice hJ
            obtain ⟨nJ, hnJ⟩ : ∃ q, q = 1 + 2 * LX.length + (1 + 2 * LY.length) := ⟨_, rfl⟩
            rw [← hnJ] at hJ hvJ
            rw [hvJ] at hrunJ hJ hoJ
            have HRJ := hid hrunJ
            have HUv3 := hid (HUv2.out.trans huJ (fun q hq e => by have := HOX.out q e; omega))
            have HFJ := hid hJ
            have HNJ := hid hnJ
            have HOJ := hid (show ∀ q, (Value.slice aoJ nJ cJ).ownBlock = some q → w13.heap.size ≤ q from fun q e => (hoJ q e).elim (HOX.out q) (fun e => Nat.le_trans HUv2.out.size e))
            clear hrunJ hJ huJ hoJ hvJ hnJ
            refine step_append_eq rfl (.tmp 79) (.tmp 81) 43 rfl rfl rfl HRJ.out ?_
            refine hK.out _ _ (fun _ => ⟨HUv3.out.get HR9.out (fun e => e), HUv3.out.get HR11.out (fun e => e)⟩) ?_
            clear hK K
            (try simp only [Act.put, List.setIfInBounds_toArray, List.set_cons_zero, List.set_cons_succ])
            refine wpAnyL_one 6 rfl (by as_aux_lemma => kernel_rfl) (fun K hK => ?_)
            go_simp
            obtain ⟨gl, hgl⟩ : ∃ q, q = v3.heap.size := ⟨_, rfl⟩
            have huB := (Upd.refl (fun _ => False) v3).alloc (.cells #[Value.slice (some ⟨g8, 0, none⟩) N c8] 22)
            have hrB := heap_alloc_new v3 (.cells #[Value.slice (some ⟨g8, 0, none⟩) N c8] 22)
            rw [← hgl] at hrB
            (try rw [← hgl])
            have HJB := hid (show ∀ q, (Value.slice aoJ nJ cJ).ownBlock = some q → q ≠ gl from fun q e e2 => by have h1 := HFJ.out.lt q e; omega)
            have HFJ := hid (SRow.upd HFJ.out huB (fun _ _ e => e))
            have HUv4 := hid (HUv3.out.trans huB (fun _ _ e => e))
            have HFB := hid (show SRow (v3.alloc (.cells #[Value.slice (some ⟨g8, 0, none⟩) N c8] 22)) 22 1 (.slice (some ⟨gl, 0, none⟩) 1 1) 1 [.slice (some ⟨g8, 0, none⟩) N c8] from ⟨rfl, .inr ⟨gl, 1, _, rfl, hrB, Nat.le_refl _, by decide, by simp, rfl⟩⟩)
            have HGL := hid (show gl < (v3.alloc (.cells #[Value.slice (some ⟨g8, 0, none⟩) N c8] 22)).heap.size from lt_of_heap hrB)
            refine hK.out _ _ (fun _ => ⟨HUv4.out.get HR9.out (fun e => e), HUv4.out.get HR11.out (fun e => e)⟩) ?_
            clear hK K
            (try simp only [Act.put, List.setIfInBounds_toArray, List.set_cons_zero, List.set_cons_succ])
            generalize v3.alloc (.cells #[Value.slice (some ⟨g8, 0, none⟩) N c8] 22) = v4 at *
            clear hgl huB hrB
            obtain ⟨vZ, v5, hrunZ, hZ, huZ, hoZ⟩ := rowLists.join HFJ.out HFB.out (fun u hu => by obtain rfl := List.mem_singleton.1 hu; rfl) (by have h1 := HLX.out; have h2 := HLY.out; have h3 := HNJ.out; omega) 43
            obtain ⟨aoZ, cZ, hvZ, -, -, -⟩ := SRow.slice hZ
            rw [hvZ] at hrunZ hZ hoZ
            have HRZ := hid hrunZ
            have HUv5 := hid (HUv4.out.trans huZ (fun q hq e => by have := HOJ.out q e; omega))
            have HFZ := hid hZ
            have HOZ := hid (show ∀ q, (Value.slice aoZ (nJ + 1) cZ).ownBlock = some q → w13.heap.size ≤ q from fun q e => (hoZ q e).elim (HOJ.out q) (fun e => Nat.le_trans HUv4.out.size e))
            clear hrunZ hZ huZ hoZ hvZ
            refine wpAnyL_one 7 rfl (by as_aux_lemma => kernel_rfl) (fun K hK => ?_)
            refine step_append_eq rfl (.tmp 82) (.tmp 84) 43 rfl rfl rfl HRZ.out ?_
            refine hK.out _ _ (fun _ => ⟨HUv5.out.get HR9.out (fun e => e), HUv5.out.get HR11.out (fun e => e)⟩) ?_
            clear hK K
            (try simp only [Act.put, List.setIfInBounds_toArray, List.set_cons_zero, List.set_cons_succ])
            refine wpAnyL_one 8 rfl (by as_aux_lemma => kernel_rfl) (fun K hK => ?_)
            go_simp
            refine hK.out _ _ (fun _ => ⟨HUv5.out.get HR9.out (fun e => e), HUv5.out.get HR11.out (fun e => e)⟩) ?_
            clear hK K
            (try simp only [Act.put, List.setIfInBounds_toArray, List.set_cons_zero, List.set_cons_succ])
            refine wpAnyL_done (by as_aux_lemma => kernel_rfl) ?_ _
            go_wp2
            go_meet
            exact ⟨aoZ, nJ + 1, cZ, rfl, by have := HNJ.out; omega, HFZ.out, HOZ.out, HUv5.out⟩
          · go_simp
            obtain ⟨gl, hgl⟩ : ∃ q, q = v2.heap.size := ⟨_, rfl⟩
            have huB := (Upd.refl (fun _ => False) v2).alloc (.cells #[Value.slice (some ⟨g8, 0, none⟩) N c8] 22)
            have hrB := heap_alloc_new v2 (.cells #[Value.slice (some ⟨g8, 0, none⟩) N c8] 22)
            rw [← hgl] at hrB
            (try rw [← hgl])
            have HXB := hid (show ∀ q, (Value.slice aoX (1 + 2 * LX.length) cX).ownBlock = some q → q ≠ gl from fun q e e2 => by have h1 := HFX.out.lt q e; omega)
            have HFX := hid (SRow.upd HFX.out huB (fun _ _ e => e))
            have HFY := hid (SRow.upd HFY.out huB (fun _ _ e => e))
            have HUv3 := hid (HUv2.out.trans huB (fun _ _ e => e))
            have HFB := hid (show SRow (v2.alloc (.cells #[Value.slice (some ⟨g8, 0, none⟩) N c8] 22)) 22 1 (.slice (some ⟨gl, 0, none⟩) 1 1) 1 [.slice (some ⟨g8, 0, none⟩) N c8] from ⟨rfl, .inr ⟨gl, 1, _, rfl, hrB, Nat.le_refl _, by decide, by simp, rfl⟩⟩)
            have HGL := hid (show gl < (v2.alloc (.cells #[Value.slice (some ⟨g8, 0, none⟩) N c8] 22)).heap.size from lt_of_heap hrB)
            refine hK.out _ _ (fun _ => ⟨HUv3.out.get HR9.out (fun e => e), HUv3.out.get HR11.out (fun e => e)⟩) ?_
            clear hK K
            (try simp only [Act.put, List.setIfInBounds_toArray, List.set_cons_zero, List.set_cons_succ])
            generalize v2.alloc (.cells #[Value.slice (some ⟨g8, 0, none⟩) N c8] 22) = v3 at *
            clear hgl huB hrB
            refine wpAnyL_one 4 rfl (by as_aux_lemma => kernel_rfl) (fun K hK => ?_)
            obtain ⟨vJ, v4, hrunJ, hJ, huJ, hoJ⟩ := rowLists.join HFX.out HFY.out (fun u hu => HOC.out u hu) (by have h1 := HLX.out; have h2 := HLY.out; omega) 43
            obtain ⟨aoJ, cJ, hvJ, -, -, -⟩ := SRow.slice hJ
            obtain ⟨nJ, hnJ⟩ : ∃ q, q = 1 + 2 * LX.length + (1 + 2 * LY.length) := ⟨_, rfl⟩
            rw [← hnJ] at hJ hvJ
            rw [hvJ] at hrunJ hJ hoJ
            have HRJ := hid hrunJ
            have HUv4 := hid (HUv3.out.trans huJ (fun q hq e => by have := HOX.out q e; omega))
            have HFJ := hid hJ
            have HNJ := hid hnJ
            have HOJ := hid (show ∀ q, (Value.slice aoJ nJ cJ).ownBlock = some q → w13.heap.size ≤ q from fun q e => (hoJ q e).elim (HOX.out q) (fun e => Nat.le_trans HUv3.out.size e))
            have HFB' := hid (SRow.upd HFB.out huJ (fun q e1 e2 => HXB.out q e2 (by simp only [Value.ownBlock, Option.some.injEq] at e1; exact e1.symm)))
            have HJB := hid (show ∀ q, (Value.slice aoJ nJ cJ).ownBlock = some q → q ≠ gl from fun q e e2 => (hoJ q e).elim (fun e => HXB.out q e e2) (fun e => by have h1 := HFB.out.lt gl rfl; omega))
            have HFB := HFB'
            clear hrunJ hJ huJ hoJ hvJ hnJ
            refine step_append_eq rfl (.tmp 79) (.tmp 81) 43 rfl rfl rfl HRJ.out ?_
            refine hK.out _ _ (fun _ => ⟨HUv4.out.get HR9.out (fun e => e), HUv4.out.get HR11.out (fun e => e)⟩) ?_
            clear hK K
            (try simp only [Act.put, List.setIfInBounds_toArray, List.set_cons_zero, List.set_cons_succ])
            obtain ⟨vZ, v5, hrunZ, hZ, huZ, hoZ⟩ := rowLists.join HFJ.out HFB.out (fun u hu => by obtain rfl := List.mem_singleton.1 hu; rfl) (by have h1 := HLX.out; have h2 := HLY.out; have h3 := HNJ.out; omega) 43
            obtain ⟨aoZ, cZ, hvZ, -, -, -⟩ := SRow.slice hZ
            rw [hvZ] at hrunZ hZ hoZ
            have HRZ := hid hrunZ
            have HUv5 := hid (HUv4.out.trans huZ (fun q hq e => by have := HOJ.out q e; omega))
            have HFZ := hid hZ
            have HOZ := hid (show ∀ q, (Value.slice aoZ (nJ + 1) cZ).ownBlock = some q → w13.heap.size ≤ q from fun q e => (hoZ q e).elim (HOJ.out q) (fun e => Nat.le_trans HUv4.out.size e))
            clear hrunZ hZ huZ hoZ hvZ
            refine wpAnyL_one 7 rfl (by as_aux_lemma => kernel_rfl) (fun K hK => ?_)
            refine step_append_eq rfl (.tmp 82) (.tmp 84) 43 rfl rfl rfl HRZ.out ?_
            refine hK.out _ _ (fun _ => ⟨HUv5.out.get HR9.out (fun e => e), HUv5.out.get HR11.out (fun e => e)⟩) ?_
            clear hK K
            (try simp only [Act.put, List.setIfInBounds_toArray, List.set_cons_zero, List.set_cons_succ])
            refine wpAnyL_one 8 rfl (by as_aux_lemma => kernel_rfl) (fun K hK => ?_)
            go_simp
            refine hK.out _ _ (fun _ => ⟨HUv5.out.get HR9.out (fun e => e), HUv5.out.get HR11.out (fun e => e)⟩) ?_
            clear hK K
            (try simp only [Act.put, List.setIfInBounds_toArray, List.set_cons_zero, List.set_cons_succ])
            refine wpAnyL_done (by as_aux_lemma => kernel_rfl) ?_ _
            go_wp2
            go_meet
            exact ⟨aoZ, nJ + 1, cZ, rfl, by have := HNJ.out; omega, HFZ.out, HOZ.out, HUv5.out⟩
        · as_aux_lemma =>
          go_simp
          obtain ⟨gl, hgl⟩ : ∃ q, q = v1.heap.size := ⟨_, rfl⟩
          have huB := (Upd.refl (fun _ => False) v1).alloc (.cells #[Value.slice (some ⟨g8, 0, none⟩) N c8] 22)
          have hrB := heap_alloc_new v1 (.cells #[Value.slice (some ⟨g8, 0, none⟩) N c8] 22)
          rw [← hgl] at hrB
          (try rw [← hgl])
          have HXB := hid (show ∀ q, (Value.slice aoX (1 + 2 * LX.length) cX).ownBlock = some q → q ≠ gl from fun q e e2 => by have h1 := HFX.out.lt q e; omega)
          have HFX := hid (SRow.upd HFX.out huB (fun _ _ e => e))
          have HUv2 := hid (HUv1.out.trans huB (fun _ _ e => e))
          have HFB := hid (show SRow (v1.alloc (.cells #[Value.slice (some ⟨g8, 0, none⟩) N c8] 22)) 22 1 (.slice (some ⟨gl, 0, none⟩) 1 1) 1 [.slice (some ⟨g8, 0, none⟩) N c8] from ⟨rfl, .inr ⟨gl, 1, _, rfl, hrB, Nat.le_refl _, by decide, by simp, rfl⟩⟩)
          have HGL := hid (show gl < (v1.alloc (.cells #[Value.slice (some ⟨g8, 0, none⟩) N c8] 22)).heap.size from lt_of_heap hrB)
          refine hK.out _ _ (fun _ => ⟨HUv2.out.get HR9.out (fun e => e), HUv2.out.get HR11.out (fun e => e)⟩) ?_
          clear hK K
          (try simp only [Act.put, List.setIfInBounds_toArray, List.set_cons_zero, List.set_cons_succ])
          generalize v1.alloc (.cells #[Value.slice (some ⟨g8, 0, none⟩) N c8] 22) = v2 at *
          clear hgl huB hrB
          refine wpAnyL_one 3 rfl (by as_aux_lemma => kernel_rfl) (fun K hK => ?_)
          go_simp
          go_at_call 21
          refine (HPY.out v2 HUv2.out).mono ?_
          rintro e v3 ⟨aoY, cY, rfl, hY, hoY, huY⟩
          have HUv3 := hid (HUv2.out.trans huY (fun _ _ e => e))
          have HFX := hid (SRow.upd HFX.out huY (fun _ _ e => e))
          have HFB := hid (SRow.upd HFB.out huY (fun _ _ e => e))
          have HFY := hid hY
          have HOY := hid (show ∀ q, (Value.slice aoY (1 + 2 * LY.length) cY).ownBlock = some q → w13.heap.size ≤ q from fun q e => Nat.le_trans HUv2.out.size (hoY q e))
          clear hY hoY huY
          refine hK.out _ _ (fun _ => ⟨HUv3.out.get HR9.out (fun e => e), HUv3.out.get HR11.out (fun e => e)⟩) ?_
          clear hK K
          (try simp only [Act.put, List.setIfInBounds_toArray, List.set_cons_zero, List.set_cons_succ])
          refine wpAnyL_one 4 rfl (by as_aux_lemma => kernel_rfl) (fun K hK => ?_)
          obtain ⟨vJ, v4, hrunJ, hJ, huJ, hoJ⟩ := rowLists.join HFX.out HFY.out (fun u hu => HOC.out u hu) (by have h1 := HLX.out; have h2 := HLY.out; omega) 43
          obtain ⟨aoJ, cJ, hvJ, -, -, -⟩ := SRow.slice hJ
          obtain ⟨nJ, hnJ⟩ : ∃ q, q = 1 + 2 * LX.length + (1 + 2 * LY.length) := ⟨_, rfl⟩
          rw [← hnJ] at hJ hvJ
          rw [hvJ] at hrunJ hJ hoJ
          have HRJ := hid hrunJ
          have HUv4 := hid (HUv3.out.trans huJ (fun q hq e => by have := HOX.out q e; omega))
          have HFJ := hid hJ
          have HNJ := hid hnJ
          have HOJ := hid (show ∀ q, (Value.slice aoJ nJ cJ).ownBlock = some q → w13.heap.size ≤ q from fun q e => (hoJ q e).elim (HOX.out q) (fun e => Nat.le_trans HUv3.out.size e))
          have HFB' := hid (SRow.upd HFB.out huJ (fun q e1 e2 => HXB.out q e2 (by simp only [Value.ownBlock, Option.some.injEq] at e1; exact e1.symm)))
          have HJB := hid (show ∀ q, (Value.slice aoJ nJ cJ).ownBlock = some q → q ≠ gl from fun q e e2 => (hoJ q e).elim (fun e => HXB.out q e e2) (fun e => by have h1 := HFB.out.lt gl rfl; omega))
          have HFB := HFB'
          clear hrunJ hJ huJ hoJ hvJ hnJ
          refine step_append_eq rfl (.tmp 79) (.tmp 81) 43 rfl rfl rfl HRJ.out ?_
          refine hK.out _ _ (fun _ => ⟨HUv4.out.get HR9.out (fun e => e), HUv4.out.get HR11.out (fun e => e)⟩) ?_
          clear hK K
          (try simp only [Act.put, List.setIfInBounds_toArray, List.set_cons_zero, List.set_cons_succ])
          obtain ⟨vZ, v5, hrunZ, hZ, huZ, hoZ⟩ := rowLists.join HFJ.out HFB.out (fun u hu => by obtain rfl := List.mem_singleton.1 hu; rfl) (by have h1 := HLX.out; have h2 := HLY.out; have h3 := HNJ.out; omega) 43
          obtain ⟨aoZ, cZ, hvZ, -, -, -⟩ := SRow.slice hZ
          rw [hvZ] at hrunZ hZ hoZ
          have HRZ := hid hrunZ
          have HUv5 := hid (HUv4.out.trans huZ (fun q hq e => by have := HOJ.out q e; omega))
          have HFZ := hid hZ
          have HOZ := hid (show ∀ q, (Value.slice aoZ (nJ + 1) cZ).ownBlock = some q → w13.heap.size ≤ q from fun q e => (hoZ q e).elim (HOJ.out q) (fun e => Nat.le_trans HUv4.out.size e))
          clear hrunZ hZ huZ hoZ hvZ
          refine wpAnyL_one 7 rfl (by as_aux_lemma => kernel_rfl) (fun K hK => ?_)
          refine step_append_eq rfl (.tmp 82) (.tmp 84) 43 rfl rfl rfl HRZ.out ?_
          refine hK.out _ _ (fun _ => ⟨HUv5.out.get HR9.out (fun e => e), HUv5.out.get HR11.out (fun e => e)⟩) ?_
          clear hK K
          (try simp only [Act.put, List.setIfInBounds_toArray, List.set_cons_zero, List.set_cons_succ])
          refine wpAnyL_one 8 rfl (by as_aux_lemma => kernel_rfl) (fun K hK => ?_)
          go_simp
          refine hK.out _ _ (fun _ => ⟨HUv5.out.get HR9.out (fun e => e), HUv5.out.get HR11.out (fun e => e)⟩) ?_
          clear hK K
          (try simp only [Act.put, List.setIfInBounds_toArray, List.set_cons_zero, List.set_cons_succ])
          refine wpAnyL_done (by as_aux_lemma => kernel_rfl) ?_ _
          go_wp2
          go_meet
          exact ⟨aoZ, nJ + 1, cZ, rfl, by have := HNJ.out; omega, HFZ.out, HOZ.out, HUv5.out⟩
      · as_aux_lemma =>
        go_simp
        obtain ⟨gl, hgl⟩ : ∃ q, q = v0.heap.size := ⟨_, rfl⟩
        have huB := (Upd.refl (fun _ => False) v0).alloc (.cells #[Value.slice (some ⟨g8, 0, none⟩) N c8] 22)
        have hrB := heap_alloc_new v0 (.cells #[Value.slice (some ⟨g8, 0, none⟩) N c8] 22)
        rw [← hgl] at hrB
        (try rw [← hgl])
        have HUv1 := hid (HUv0.out.trans huB (fun _ _ e => e))
        have HFB := hid (show SRow (v0.alloc (.cells #[Value.slice (some ⟨g8, 0, none⟩) N c8] 22)) 22 1 (.slice (some ⟨gl, 0, none⟩) 1 1) 1 [.slice (some ⟨g8, 0, none⟩) N c8] from ⟨rfl, .inr ⟨gl, 1, _, rfl, hrB, Nat.le_refl _, by decide, by simp, rfl⟩⟩)
        have HGL := hid (show gl < (v0.alloc (.cells #[Value.slice (some ⟨g8, 0, none⟩) N c8] 22)).heap.size from lt_of_heap hrB)
        refine hK.out _ _ (fun _ => ⟨HUv1.out.get HR9.out (fun e => e), HUv1.out.get HR11.out (fun e => e)⟩) ?_
        clear hK K
        (try simp only [Act.put, List.setIfInBounds_toArray, List.set_cons_zero, List.set_cons_succ])
        generalize v0.alloc (.cells #[Value.slice (some ⟨g8, 0, none⟩) N c8] 22) = v1 at *
        clear hgl huB hrB
        refine wpAnyL_one 1 rfl (by as_aux_lemma => kernel_rfl) (fun K hK => ?_)
        go_simp
        go_at_call 21
        refine (HPX.out v1 HUv1.out).mono ?_
        rintro e v2 ⟨aoX, cX, rfl, hX, hoX, huX⟩
        have HUv2 := hid (HUv1.out.trans huX (fun _ _ e => e))
        have HFB := hid (SRow.upd HFB.out huX (fun _ _ e => e))
        have HFX := hid hX
        have HOX := hid (show ∀ q, (Value.slice aoX (1 + 2 * LX.length) cX).ownBlock = some q → w13.heap.size ≤ q from fun q e => Nat.le_trans HUv1.out.size (hoX q e))
        have HXB := hid (show ∀ q, (Value.slice aoX (1 + 2 * LX.length) cX).ownBlock = some q → q ≠ gl from fun q e e2 => by have h1 := hoX q e; have h2 := HGL.out; omega)
        clear hX hoX huX
        refine hK.out _ _ (fun _ => ⟨HUv2.out.get HR9.out (fun e => e), HUv2.out.get HR11.out (fun e => e)⟩) ?_
        clear hK K
        (try simp only [Act.put, List.setIfInBounds_toArray, List.set_cons_zero, List.set_cons_succ])
        refine wpAnyL_one 3 rfl (by as_aux_lemma => kernel_rfl) (fun K hK => ?_)
        go_simp
        go_at_call 21
        refine (HPY.out v2 HUv2.out).mono ?_
        rintro e v3 ⟨aoY, cY, rfl, hY, hoY, huY⟩
        have HUv3 := hid (HUv2.out.trans huY (fun _ _ e => e))
        have HFX := hid (SRow.upd HFX.out huY (fun _ _ e => e))
        have HFB := hid (SRow.upd HFB.out huY (fun _ _ e => e))
        have HFY := hid hY
        have HOY := hid (show ∀ q, (Value.slice aoY (1 + 2 * LY.length) cY).ownBlock = some q → w13.heap.size ≤ q from fun q e => Nat.le_trans HUv2.out.size (hoY q e))
        clear hY hoY huY
        refine hK.out _ _ (fun _ => ⟨HUv3.out.get HR9.out (fun e => e), HUv3.out.get HR11.out (fun e => e)⟩) ?_
        clear hK K
        (try simp only [Act.put, List.setIfInBounds_toArray, List.set_cons_zero, List.set_cons_succ])
        refine wpAnyL_one 4 rfl (by as_aux_lemma => kernel_rfl) (fun K hK => ?_)
        obtain ⟨vJ, v4, hrunJ, hJ, huJ, hoJ⟩ := rowLists.join HFX.out HFY.out (fun u hu => HOC.out u hu) (by have h1 := HLX.out; have h2 := HLY.out; omega) 43
        obtain ⟨aoJ, cJ, hvJ, -, -, -⟩ := SRow.slice hJ
        obtain ⟨nJ, hnJ⟩ : ∃ q, q = 1 + 2 * LX.length + (1 + 2 * LY.length) := ⟨_, rfl⟩
        rw [← hnJ] at hJ hvJ
        rw [hvJ] at hrunJ hJ hoJ
        have HRJ := hid hrunJ
        have HUv4 := hid (HUv3.out.trans huJ (fun q hq e => by have := HOX.out q e; omega))
        have HFJ := hid hJ
        have HNJ := hid hnJ
        have HOJ := hid (show ∀ q, (Value.slice aoJ nJ cJ).ownBlock = some q → w13.heap.size ≤ q from fun q e => (hoJ q e).elim (HOX.out q) (fun e => Nat.le_trans HUv3.out.size e))
        have HFB' := hid (SRow.upd HFB.out huJ (fun q e1 e2 => HXB.out q e2 (by simp only [Value.ownBlock, Option.some.injEq] at e1; exact e1.symm)))
        have HJB := hid (show ∀ q, (Value.slice aoJ nJ cJ).ownBlock = some q → q ≠ gl from fun q e e2 => (hoJ q e).elim (fun e => HXB.out q e e2) (fun e => by have h1 := HFB.out.lt gl rfl; omega))
        have HFB := HFB'
        clear hrunJ hJ huJ hoJ hvJ hnJ
        refine step_append_eq rfl (.tmp 79) (.tmp 81) 43 rfl rfl rfl HRJ.out ?_
        refine hK.out _ _ (fun _ => ⟨HUv4.out.get HR9.out (fun e => e), HUv4.out.get HR11.out (fun e => e)⟩) ?_
        clear hK K
        (try simp only [Act.put, List.setIfInBounds_toArray, List.set_cons_zero, List.set_cons_succ])
        obtain ⟨vZ, v5, hrunZ, hZ, huZ, hoZ⟩ := rowLists.join HFJ.out HFB.out (fun u hu => by obtain rfl := List.mem_singleton.1 hu; rfl) (by have h1 := HLX.out; have h2 := HLY.out; have h3 := HNJ.out; omega) 43
        obtain ⟨aoZ, cZ, hvZ, -, -, -⟩ := SRow.slice hZ
        rw [hvZ] at hrunZ hZ hoZ
        have HRZ := hid hrunZ
        have HUv5 := hid (HUv4.out.trans huZ (fun q hq e => by have := HOJ.out q e; omega))
        have HFZ := hid hZ
        have HOZ := hid (show ∀ q, (Value.slice aoZ (nJ + 1) cZ).ownBlock = some q → w13.heap.size ≤ q from fun q e => (hoZ q e).elim (HOJ.out q) (fun e => Nat.le_trans HUv4.out.size e))
        clear hrunZ hZ huZ hoZ hvZ
        refine wpAnyL_one 7 rfl (by as_aux_lemma => kernel_rfl) (fun K hK => ?_)
        refine step_append_eq rfl (.tmp 82) (.tmp 84) 43 rfl rfl rfl HRZ.out ?_
        refine hK.out _ _ (fun _ => ⟨HUv5.out.get HR9.out (fun e => e), HUv5.out.get HR11.out (fun e => e)⟩) ?_
        clear hK K
        (try simp only [Act.put, List.setIfInBounds_toArray, List.set_cons_zero, List.set_cons_succ])
        refine wpAnyL_one 8 rfl (by as_aux_lemma => kernel_rfl) (fun K hK => ?_)
        go_simp
        refine hK.out _ _ (fun _ => ⟨HUv5.out.get HR9.out (fun e => e), HUv5.out.get HR11.out (fun e => e)⟩) ?_
        clear hK K
        (try simp only [Act.put, List.setIfInBounds_toArray, List.set_cons_zero, List.set_cons_succ])
        refine wpAnyL_done (by as_aux_lemma => kernel_rfl) ?_ _
        go_wp2
        go_meet
        exact ⟨aoZ, nJ + 1, cZ, rfl, by have := HNJ.out; omega, HFZ.out, HOZ.out, HUv5.out⟩
    case rest =>
      obtain ⟨lo, ln, lc, hlv, hln, hlrow, hlown, hlu⟩ := hcut
      subst hlv
      have HSX := hid (show stateLen y ≤ 131072 from by
        have h1 := okA_head HOKY.out
        simp [headA, ins] at h1
        unfold stateLen
        omega)
      have HKL := hid (show ∀ r ∈ y.runs, r.first.length ≤ 1100 ∧ r.last.length ≤ 1100 from (body_len HOKY.out).2)
      obtain ⟨ls, hls⟩ : ∃ ls, ls = (lvOf (.slice o3 k1 r3) y.state :: keysV LX) ++ (lvOf (.slice o5 k1 r5) y.state :: keysV LY) ++ [lvOf (.slice (some ⟨g8, 0, none⟩) N c8) E] := ⟨_, rfl⟩
      have hlsv : ls.map LV.v = (Value.slice o3 k1 r3 :: LX.flatMap MV.keys) ++ (Value.slice o5 k1 r5 :: LY.flatMap MV.keys) ++ [Value.slice (some ⟨g8, 0, none⟩) N c8] := by
        rw [hls]
        simp only [List.map_append, List.map_cons, List.map_nil, keysV_v, lvOf]
      have hlsl : ls.length = ln := by
        rw [hls, hln]
        simp only [List.length_append, List.length_cons, List.length_nil, keysV_len]
        omega
      have hblk : blkV ls = ((Value.slice o3 k1 r3).ownBlock.toList ++ keyBlocks LX) ++ ((Value.slice o5 k1 r5).ownBlock.toList ++ keyBlocks LY) ++ [g8] := by
        rw [hls, blkV_append, blkV_append]
        have e1 : blkV (lvOf (.slice o3 k1 r3) y.state :: keysV LX) = (Value.slice o3 k1 r3).ownBlock.toList ++ keyBlocks LX := by rw [← keysV_blk]; rfl
        have e2 : blkV (lvOf (.slice o5 k1 r5) y.state :: keysV LY) = (Value.slice o5 k1 r5).ownBlock.toList ++ keyBlocks LY := by rw [← keysV_blk]; rfl
        rw [e1, e2]
        rfl
      have hg8w9 : g8 < w9.heap.size := by have h1 := HGT.out; have h2 := HG9.out; omega
      have hrange : ∀ q ∈ blkV ls, w7.heap.size ≤ q ∧ (q = g8 ∨ w9.heap.size ≤ q) ∧ q < w13.heap.size := by
        intro q hq
        rw [hblk] at hq
        have h97 : w7.heap.size ≤ w9.heap.size := by have h1 := HG8.out; omega
        rcases List.mem_append.1 hq with hq | hq
        · rcases List.mem_append.1 hq with hq | hq
          · have h1 := HX5.out q hq
            have h2 := HX6.out q hq
            have h3 := HOS13.out.db.upd.size
            refine ⟨by omega, .inr h1, ?_⟩
            have h4 := HS1211.out; have h5 := HS1110.out
            have h6 := HXL.out
            exact h6 q (by omega)
          · have h1 := HY5.out q hq
            have h2 := HY6.out q hq
            have h4 := HS119.out
            exact ⟨by omega, .inr (by omega), HXL.out q h2⟩
        · obtain rfl := List.mem_singleton.1 hq
          have h1 := HB13.out.lt q rfl
          exact ⟨HG8.out, .inl rfl, h1⟩
      have hnd : (blkV ls).Nodup := by
        rw [hblk]
        refine List.nodup_append.2 ⟨List.nodup_append.2 ⟨HX4.out, HY4.out, fun a ha b hb e => ?_⟩, by simp, fun a ha b hb e => ?_⟩
        · have h1 := HX6.out a ha
          have h2 := HY5.out b hb
          have h3 := HS1110.out
          omega
        · obtain rfl := List.mem_singleton.1 hb
          rcases List.mem_append.1 ha with ha | ha
          · have h1 := HX5.out a ha; omega
          · have h1 := HY5.out a ha; have h2 := HS119.out; omega
      have HLS := hid (show LsIn wc (.slice lo ln lc) ls from lsIn_of (by rw [hlsl, hlsv]; exact hlrow) (fun z hz => by
        rw [hls] at hz
        have kx : ∀ {L : List MV} {rs : Value} {b : Nat}, RunsOwn w13 b rs L → y.runs = L.map MV.m → z ∈ keysV L → ∃ bs, z = lvOf z.v bs ∧ DataIs wc z.v bs ∧ bs.length ≤ 1000000 := by
          intro L rs b h1 h2 h3
          obtain ⟨yy, hyy, hz2⟩ := keysV_mem h3
          have h4 := HKL.out yy.m (by rw [h2]; exact List.mem_map_of_mem hyy)
          rcases hz2 with rfl | rfl
          · exact ⟨_, rfl, (h1.data yy hyy).1.upd hlu (fun _ _ e => e), by omega⟩
          · exact ⟨_, rfl, (h1.data yy hyy).2.upd hlu (fun _ _ e => e), by omega⟩
        have hsl : y.state.length ≤ 1000000 := by have h := HSX.out; unfold stateLen at h; omega
        rcases List.mem_append.1 hz with hz | hz
        · rcases List.mem_append.1 hz with hz | hz
          · rcases List.mem_cons.1 hz with rfl | hz
            · exact ⟨_, rfl, HX1.out.upd hlu (fun _ _ e => e), hsl⟩
            · exact kx HX2.out HX3.out hz
          · rcases List.mem_cons.1 hz with rfl | hz
            · exact ⟨_, rfl, HY1.out.upd hlu (fun _ _ e => e), hsl⟩
            · exact kx HY2.out HY3.out hz
        · obtain rfl := List.mem_singleton.1 hz
          exact ⟨_, rfl, HB13.out.upd hlu (fun _ _ e => e), by have h1 := HNB.out; have h2 := HN.out; omega⟩) hnd (fun q hq e => by have h1 := (hrange q hq).2.2; have h2 := hlown q e; omega))
      have HRG := hid hrange; have HLSL := hid hlsl; have HLOWN := hid hlown
      have hlnb : ln ≤ 300 := by have h1 := HLX.out; have h2 := HLY.out; omega
      have HLNB := hid hlnb
      have HLU := hid hlu
      have HOSc := hid (HOS13.out.quiet hlu)
      have HU7c := hid (HU7.out.trans hlu (fun _ _ e => e.elim))
      have HU9c := hid (HU9.out.trans hlu (fun _ _ e => e.elim))
      have HRX := hid (owns_upd HX2.out.row hlu (fun _ _ e => e))
      have HRY := hid (owns_upd HY2.out.row hlu (fun _ _ e => e))
      have hr9 := HOSc.out.db.row (b := p9) (List.mem_cons_of_mem _ (List.mem_cons_self ..))
      have hr11 := HOSc.out.db.row (b := p11) (List.mem_cons_self ..)
      obtain ⟨⟨z0, z1, z2, z3, z4, z5, z6⟩, -, hzl⟩ := verCells hr9
      obtain ⟨⟨h0, h1, h2, h3, h4, h5, h6⟩, -, hhl⟩ := verCells hr11
      clear hls hlsv hlsl hblk hg8w9 hrange hnd hlu hlrow hlown hln hlnb hr9 hr11 HPX HPY
      go_upto_region 15 with fail
      clear z0 z1 z2 z3 z4 z5 z6 hzl h0 h1 h2 h3 h4 h5 h6 hhl
      have HAL := hid ((Upd.refl (fun _ => False) wc).alloc (.cells #[.slice o4 k2 r4, .slice o6 k2 r6] 23))
      have HRL := hid (heap_alloc_new wc (.cells #[.slice o4 k2 r4, .slice o6 k2 r6] 23))
      have HLS15 := hid (HLS.out.quiet HAL.out)
      have HOS15 := hid (HOSc.out.quiet HAL.out)
      have HU7d := hid (HU7c.out.trans HAL.out (fun _ _ e => e.elim))
      have HU9d := hid (HU9c.out.trans HAL.out (fun _ _ e => e.elim))
      have hkx : LX.length = k2 := by have h1 := HX3.out; have h2 := HYS.out.2.2.2.2.2.2; rw [h2, h1, List.length_map]
      have hky : LY.length = k2 := by have h1 := HY3.out; have h2 := HYS.out.2.2.2.2.2.2; rw [h2, h1, List.length_map]
      have HRX15 := hid (show SRow (wc.alloc (.cells #[.slice o4 k2 r4, .slice o6 k2 r6] 23)) 48 8 (.slice o4 k2 r4) k2 (LX.flatMap MV.cells) from by have h := SRow.upd (SRow.of_owns HRX.out) HAL.out (fun _ _ e => e); rw [hkx] at h; exact h)
      have HRY15 := hid (show SRow (wc.alloc (.cells #[.slice o4 k2 r4, .slice o6 k2 r6] 23)) 48 8 (.slice o6 k2 r6) k2 (LY.flatMap MV.cells) from by have h := SRow.upd (SRow.of_owns HRY.out) HAL.out (fun _ _ e => e); rw [hky] at h; exact h)
      have HK64 := hid (show k2 ≤ 64 from by have := HLX.out; omega)
      have HXY := hid (show ∀ q, (Value.slice o4 k2 r4).ownBlock = some q → ¬ (Value.slice o6 k2 r6).ownBlock = some q from fun q e1 e2 => by
        have h1 := HX7.out q e1
        have h2 := (HY2.out.row.lt q e2).1
        have h3 := HS1110.out
        omega)
      have HR13 := hid (show ∀ q, ((Value.slice o4 k2 r4).ownBlock = some q ∨ (Value.slice o6 k2 r6).ownBlock = some q) → w9.heap.size ≤ q ∧ q < w13.heap.size from fun q e => e.elim (fun e => ⟨(HX2.out.row.lt q e).1, (HX2.out.row.lt q e).2⟩) (fun e => ⟨by have h1 := (HY2.out.row.lt q e).1; have h2 := HS119.out; omega, (HY2.out.row.lt q e).2⟩))
      obtain ⟨grl, hgrl⟩ : ∃ q, q = wc.heap.size := ⟨_, rfl⟩
      have HGRL := hid (show w13.heap.size ≤ grl from by rw [hgrl]; exact HLU.out.size)
      rw [← hgrl] at HRL ⊢
      generalize wc.alloc (.cells #[.slice o4 k2 r4, .slice o6 k2 r6] 23) = w15 at HAL HRL HLS15 HOS15 HU7d HU9d HRX15 HRY15 ⊢
      clear hgrl hkx hky
      have HFI := hid (filled_any HLS15.out (by rw [HLSL.out]; have := HLNB.out; omega))
      go_wp2_with fail
      refine HFI.out.mono ?_
      rintro e w16 ⟨ma, mc, gs, rfl, hgr⟩
      have HGR := hid hgr
      have HVB := hid (show ∀ q, vblk ls q → w7.heap.size ≤ q ∧ (q = g8 ∨ w9.heap.size ≤ q) ∧ q < w13.heap.size from fun q e => HRG.out q (vblk_mem e))
      have hdk : ∀ k ∈ s12.blocks, k < w5.heap.size := by have h := HN8.out; rw [← HBL12.out] at h; exact h
      have HDK := hid hdk
      have HOS16 := hid (HOS15.out.turn hgr.upd (fun k _ e => ⟨by have h1 := (HVB.out k e).1; have h2 := HA7.out; omega, fun e2 => by have h1 := (HVB.out k e).1; have h2 := hdk k e2; have h3 := HS76.out; omega, fun r hr e2 => by
        subst e2
        have h1 := HOS15.out.db.bes.rows r hr
        simp only [List.mem_cons, List.not_mem_nil, or_false] at hr
        rcases hr with rfl | rfl | rfl | rfl
        · exact HLS15.out.notBlk h1 (by decide) e
        · exact HLS15.out.notBlk h1 (by decide) e
        · exact HLS15.out.notBlk h1 (by decide) e
        · exact HLS15.out.notBlk h1 (by decide) e⟩) HUA.out.size)
      have HU7e := hid (HU7d.out.trans hgr.upd (fun k hk e => by have := (HVB.out k e).1; omega))
      have HU9e := hid ((HU9d.out.mono (T := fun k => k ∈ s3.blocks ∨ k = g8) (fun _ _ e => .inl e)).trans hgr.upd (fun k hk e => by rcases (HVB.out k e).2.1 with e2 | e2; exact .inr e2; omega))
      have hnb : ∀ {v : Value} {xs : List Value}, SRow w15 48 8 v k2 xs → ∀ q, v.ownBlock = some q → ¬ vblk ls q := fun h q e => by
        rcases h.2 with ⟨e2, -⟩ | ⟨g, cap, cur, e2, hg, -⟩
        · rw [e2] at e; cases e
        · rw [e2] at e
          simp only [Value.ownBlock, Option.some.injEq] at e
          subst e
          exact HLS15.out.notBlk hg (by decide)
      have HNBX := hid (show ∀ q, ((Value.slice o4 k2 r4).ownBlock = some q ∨ (Value.slice o6 k2 r6).ownBlock = some q) → ¬ vblk ls q from fun q e => e.elim (hnb HRX15.out q) (hnb HRY15.out q))
      have HRX16 := hid (SRow.upd HRX15.out hgr.upd (fun q e => hnb HRX15.out q e))
      have HRY16 := hid (SRow.upd HRY15.out hgr.upd (fun q e => hnb HRY15.out q e))
      have HRL16 := hid (hgr.upd.get HRL.out (HLS15.out.notBlk HRL.out (by decide)))
      have HRLW := hid (show ∀ wx, Upd (fun q => (Value.slice o4 k2 r4).ownBlock = some q ∨ (Value.slice o6 k2 r6).ownBlock = some q) w16 wx → wx.cell? ⟨grl, 0, none⟩ = some (.slice o4 k2 r4) ∧ wx.cell? ⟨grl, 1, none⟩ = some (.slice o6 k2 r6) ∧ grl < wx.heap.size from fun wx hx => by
        have h := hx.get HRL16.out (fun e => by have h1 := (HR13.out grl e).2; have h2 := HGRL.out; omega)
        exact ⟨cell_of_row wx grl 0 _ _ _ h, cell_of_row wx grl 1 _ _ _ h, lt_of_heap h⟩)
      obtain ⟨nM, hnM⟩ : ∃ q, q = 3 * ls.length := ⟨_, rfl⟩
      have HNM := hid hnM
      rw [← hnM] at HGR ⊢
      clear hgr hdk hnb hnM HFI
      have hk64 : k2 ≤ 64 := HK64.out
      go_wp2
      go_loopw [17] (fun iv wr => ∃ j : Nat, j ≤ 2 ∧ iv = .int .i64 j ∧ SRow wr 48 8 (.slice o4 k2 r4) k2 (if 1 ≤ j then rep k2 (numC (-5)) else LX.flatMap MV.cells) ∧ SRow wr 48 8 (.slice o6 k2 r6) k2 (if 2 ≤ j then rep k2 (numC (-6)) else LY.flatMap MV.cells) ∧ Upd (fun q => (Value.slice o4 k2 r4).ownBlock = some q ∨ (Value.slice o6 k2 r6).ownBlock = some q) w16 wr) (fun iv _ => 2 - (intOf iv).toNat)
      case atStart => exact ⟨0, by omega, rfl, by simpa using HRX16.out, by simpa using HRY16.out, Upd.refl _ _⟩
      case round =>
        obtain ⟨j, hj, rfl, hrowX, hrowY, hupw⟩ := hrel
        obtain ⟨wo, rfl⟩ : ∃ wo, wo = wr := ⟨_, rfl⟩
        rcases j with _ | _ | _ | j
        · have hrow0 := hrowX
          rw [show ((((0 : Nat)) : Int)) = 0 from rfl]
          have HROWT := hid (show SRow wo 48 8 (.slice o4 k2 r4) k2 (LX.flatMap MV.cells) from by simpa using hrow0)
          have HOTH := hid hrowY; have HUPW := hid hupw
          have cg0 := (HRLW.out wo hupw).1
          have cg1 := (HRLW.out wo hupw).2.1
          have cgl := (HRLW.out wo hupw).2.2
          clear hrow0 hrowX hrowY hupw
          go_wp2
          go_loopw [18] (fun kv wr => ∃ k : Nat, k ≤ k2 ∧ kv = .int .i64 k ∧ SRow wr 48 8 (.slice o4 k2 r4) k2 (rep k (numC (-5)) ++ (LX.flatMap MV.cells).drop (k * 8)) ∧ Upd (fun q => (Value.slice o4 k2 r4).ownBlock = some q) wo wr) (fun kv _ => k2 - (intOf kv).toNat)
          case atStart => exact ⟨0, Nat.zero_le _, rfl, by simpa [rep] using HROWT.out, Upd.refl _ _⟩
          case round =>
            clear cg0 cg1 cgl
            obtain ⟨k, hk, rfl, hsr, hup2⟩ := hrel
            have HSR := hid hsr; have HUP2 := hid hup2
            have hUW : Upd (fun q => (Value.slice o4 k2 r4).ownBlock = some q ∨ (Value.slice o6 k2 r6).ownBlock = some q) w16 wr := HUPW.out.trans hup2 (fun q _ e => .inl e)
            have cg0 := (HRLW.out wr hUW).1
            have cg1 := (HRLW.out wr hUW).2.1
            have cgl := (HRLW.out wr hUW).2.2
            have HUW := hid hUW
            clear hsr hup2 hUW
            by_cases hkk : k < k2
            · obtain ⟨g, cap, e, hgl, hcf, hset⟩ := meta_set HSR.out hkk (-5)
              have hxl : (LX.flatMap MV.cells).length = k2 * 8 := by have := HROWT.out.1; simpa using this
              rw [rep_set8 hxl hkk] at hset
              injection e with e1 _ e3
              subst e1; subst e3
              obtain ⟨⟨x0, d0⟩, f0⟩ := hcf 0 (by omega)
              obtain ⟨⟨x1, d1⟩, f1⟩ := hcf 1 (by omega)
              obtain ⟨⟨x2, d2⟩, f2⟩ := hcf 2 (by omega)
              obtain ⟨⟨x3, d3⟩, f3⟩ := hcf 3 (by omega)
              obtain ⟨⟨x4, d4⟩, f4⟩ := hcf 4 (by omega)
              obtain ⟨⟨x5, d5⟩, f5⟩ := hcf 5 (by omega)
              obtain ⟨⟨x6, d6⟩, f6⟩ := hcf 6 (by omega)
              obtain ⟨⟨x7, d7⟩, f7⟩ := hcf 7 (by omega)
              simp only [Nat.add_zero] at d0 f0
              have HSET := hid hset
              have hki : (k : Int) < (k2 : Int) := by omega
              have HUS := hid ((((((((HUP2.out.setCell (p := ⟨g, k * 8, none⟩) (fun _ => rfl) (.int .i64 (-5))).setCell (p := ⟨g, k * 8 + 1, none⟩) (fun _ => rfl) (.int .i64 0)).setCell (p := ⟨g, k * 8 + 2, none⟩) (fun _ => rfl) (.int .i64 0)).setCell (p := ⟨g, k * 8 + 3, none⟩) (fun _ => rfl) (.int .i64 0)).setCell (p := ⟨g, k * 8 + 4, none⟩) (fun _ => rfl) (.int .i64 0)).setCell (p := ⟨g, k * 8 + 5, none⟩) (fun _ => rfl) (.int .i64 0)).setCell (p := ⟨g, k * 8 + 6, none⟩) (fun _ => rfl) (.slice none 0 0)).setCell (p := ⟨g, k * 8 + 7, none⟩) (fun _ => rfl) (.slice none 0 0))
              clear hcf hset hxl
              go_wp2
              go_roundw
              case rel => exact ⟨k + 1, by omega, by go_num, HSET.out, HUS.out⟩
              case measure => simp [intOf]; omega
            · obtain rfl : k = k2 := by omega
              have hxl : (LX.flatMap MV.cells).length = k * 8 := by have := HROWT.out.1; simpa using this
              have hfin : SRow wr 48 8 (.slice o4 k r4) k (rep k (numC (-5))) := by
                have h := HSR.out
                rw [List.drop_eq_nil_of_le (by omega), List.append_nil] at h
                exact h
              obtain ⟨aoq, capq, wz, hrunq, hrq, huq⟩ := meta_append hfin (by omega) (-50 - 0) (-50 - 0)
              have hrunq' : (Builtin.append_ #[23, 23] 23 #[.slice o4 k r4, .slice (some ⟨wr.heap.size, 0, none⟩) 2 2]).run Tryz.prog (wr.alloc (.cells #[.int .i64 (-50), .int .i64 0, .int .i64 0, .int .i64 0, .int .i64 0, .int .i64 0, .slice none 0 0, .slice none 0 0, .int .i64 (-50), .int .i64 0, .int .i64 0, .int .i64 0, .int .i64 0, .int .i64 0, .slice none 0 0, .slice none 0 0] 48)) = .ok (.slice aoq (k + 2) capq) wz := hrunq
              have HRQ := hid hrunq'
              have hUZ : Upd (fun q => (Value.slice o4 k r4).ownBlock = some q ∨ (Value.slice o6 k r6).ownBlock = some q) w16 wz := HUW.out.trans huq (fun q _ e => .inl e)
              have HNXT := hid (show SRow wz 48 8 (.slice o4 k r4) k (rep k (numC (-5))) ∧ SRow wz 48 8 (.slice o6 k r6) k _ ∧ Upd _ w16 wz from ⟨hrq, SRow.upd HOTH.out (HUP2.out.trans huq (fun _ _ e => e)) (fun q e1 e2 => HXY.out q e2 e1), hUZ⟩)
              have cz0 := (HRLW.out wz hUZ).1
              have cz1 := (HRLW.out wz hUZ).2.1
              have czl := (HRLW.out wz hUZ).2.2
              clear hrunq hrunq' hrq huq hUZ hfin hxl
              go_wp2_with (at_builtin; refine wpList_append_run rfl _ _ _ rfl rfl rfl HRQ.out ?_)
              go_roundw
              case rel => exact ⟨1, by omega, by go_num, by simpa using HNXT.out.1, by simpa using HNXT.out.2.1, HNXT.out.2.2⟩
              case measure => simp [intOf]
        · have hrow0 := hrowY
          rw [show ((((1 : Nat)) : Int)) = 1 from rfl]
          have HROWT := hid (show SRow wo 48 8 (.slice o6 k2 r6) k2 (LY.flatMap MV.cells) from by simpa using hrow0)
          have HOTH := hid hrowX; have HUPW := hid hupw
          have cg0 := (HRLW.out wo hupw).1
          have cg1 := (HRLW.out wo hupw).2.1
          have cgl := (HRLW.out wo hupw).2.2
          clear hrow0 hrowX hrowY hupw
          go_wp2
          go_loopw [18] (fun kv wr => ∃ k : Nat, k ≤ k2 ∧ kv = .int .i64 k ∧ SRow wr 48 8 (.slice o6 k2 r6) k2 (rep k (numC (-6)) ++ (LY.flatMap MV.cells).drop (k * 8)) ∧ Upd (fun q => (Value.slice o6 k2 r6).ownBlock = some q) wo wr) (fun kv _ => k2 - (intOf kv).toNat)
          case atStart => exact ⟨0, Nat.zero_le _, rfl, by simpa [rep] using HROWT.out, Upd.refl _ _⟩
          case round =>
            clear cg0 cg1 cgl
            obtain ⟨k, hk, rfl, hsr, hup2⟩ := hrel
            have HSR := hid hsr; have HUP2 := hid hup2
            have hUW : Upd (fun q => (Value.slice o4 k2 r4).ownBlock = some q ∨ (Value.slice o6 k2 r6).ownBlock = some q) w16 wr := HUPW.out.trans hup2 (fun q _ e => .inr e)
            have cg0 := (HRLW.out wr hUW).1
            have cg1 := (HRLW.out wr hUW).2.1
            have cgl := (HRLW.out wr hUW).2.2
            have HUW := hid hUW
            clear hsr hup2 hUW
            by_cases hkk : k < k2
            · obtain ⟨g, cap, e, hgl, hcf, hset⟩ := meta_set HSR.out hkk (-6)
              have hxl : (LY.flatMap MV.cells).length = k2 * 8 := by have := HROWT.out.1; simpa using this
              rw [rep_set8 hxl hkk] at hset
              injection e with e1 _ e3
              subst e1; subst e3
              obtain ⟨⟨x0, d0⟩, f0⟩ := hcf 0 (by omega)
              obtain ⟨⟨x1, d1⟩, f1⟩ := hcf 1 (by omega)
              obtain ⟨⟨x2, d2⟩, f2⟩ := hcf 2 (by omega)
              obtain ⟨⟨x3, d3⟩, f3⟩ := hcf 3 (by omega)
              obtain ⟨⟨x4, d4⟩, f4⟩ := hcf 4 (by omega)
              obtain ⟨⟨x5, d5⟩, f5⟩ := hcf 5 (by omega)
              obtain ⟨⟨x6, d6⟩, f6⟩ := hcf 6 (by omega)
              obtain ⟨⟨x7, d7⟩, f7⟩ := hcf 7 (by omega)
              simp only [Nat.add_zero] at d0 f0
              have HSET := hid hset
              have hki : (k : Int) < (k2 : Int) := by omega
              have HUS := hid ((((((((HUP2.out.setCell (p := ⟨g, k * 8, none⟩) (fun _ => rfl) (.int .i64 (-6))).setCell (p := ⟨g, k * 8 + 1, none⟩) (fun _ => rfl) (.int .i64 0)).setCell (p := ⟨g, k * 8 + 2, none⟩) (fun _ => rfl) (.int .i64 0)).setCell (p := ⟨g, k * 8 + 3, none⟩) (fun _ => rfl) (.int .i64 0)).setCell (p := ⟨g, k * 8 + 4, none⟩) (fun _ => rfl) (.int .i64 0)).setCell (p := ⟨g, k * 8 + 5, none⟩) (fun _ => rfl) (.int .i64 0)).setCell (p := ⟨g, k * 8 + 6, none⟩) (fun _ => rfl) (.slice none 0 0)).setCell (p := ⟨g, k * 8 + 7, none⟩) (fun _ => rfl) (.slice none 0 0))
              clear hcf hset hxl
              go_wp2
              go_roundw
              case rel => exact ⟨k + 1, by omega, by go_num, HSET.out, HUS.out⟩
              case measure => simp [intOf]; omega
            · obtain rfl : k = k2 := by omega
              have hxl : (LY.flatMap MV.cells).length = k * 8 := by have := HROWT.out.1; simpa using this
              have hfin : SRow wr 48 8 (.slice o6 k r6) k (rep k (numC (-6))) := by
                have h := HSR.out
                rw [List.drop_eq_nil_of_le (by omega), List.append_nil] at h
                exact h
              obtain ⟨aoq, capq, wz, hrunq, hrq, huq⟩ := meta_append hfin (by omega) (-50 - 1) (-50 - 1)
              have hrunq' : (Builtin.append_ #[23, 23] 23 #[.slice o6 k r6, .slice (some ⟨wr.heap.size, 0, none⟩) 2 2]).run Tryz.prog (wr.alloc (.cells #[.int .i64 (-51), .int .i64 0, .int .i64 0, .int .i64 0, .int .i64 0, .int .i64 0, .slice none 0 0, .slice none 0 0, .int .i64 (-51), .int .i64 0, .int .i64 0, .int .i64 0, .int .i64 0, .int .i64 0, .slice none 0 0, .slice none 0 0] 48)) = .ok (.slice aoq (k + 2) capq) wz := hrunq
              have HRQ := hid hrunq'
              have hUZ : Upd (fun q => (Value.slice o4 k r4).ownBlock = some q ∨ (Value.slice o6 k r6).ownBlock = some q) w16 wz := HUW.out.trans huq (fun q _ e => .inr e)
              have HNXT := hid (show SRow wz 48 8 (.slice o6 k r6) k (rep k (numC (-6))) ∧ SRow wz 48 8 (.slice o4 k r4) k _ ∧ Upd _ w16 wz from ⟨hrq, SRow.upd HOTH.out (HUP2.out.trans huq (fun _ _ e => e)) (fun q e1 e2 => HXY.out q e1 e2), hUZ⟩)
              have cz0 := (HRLW.out wz hUZ).1
              have cz1 := (HRLW.out wz hUZ).2.1
              have czl := (HRLW.out wz hUZ).2.2
              clear hrunq hrunq' hrq huq hUZ hfin hxl
              go_wp2_with (at_builtin; refine wpList_append_run rfl _ _ _ rfl rfl rfl HRQ.out ?_)
              go_roundw
              case rel => exact ⟨2, by omega, by go_num, by simpa using HNXT.out.2.1, by simpa using HNXT.out.1, HNXT.out.2.2⟩
              case measure => simp [intOf]
        · have HZX0 := hid (show SRow wo 48 8 (.slice o4 k2 r4) k2 (rep k2 (numC (-5))) from by simpa using hrowX)
          have HZY0 := hid (show SRow wo 48 8 (.slice o6 k2 r6) k2 (rep k2 (numC (-6))) from by simpa using hrowY)
          rw [show ((((0 + 1 + 1 : Nat)) : Int)) = 2 from rfl]
          have hty : ∀ q, ((Value.slice o4 k2 r4).ownBlock = some q ∨ (Value.slice o6 k2 r6).ownBlock = some q) → ∃ cur, w16.heap[q]? = some (.cells cur 48 (0, 0)) := by
            have hh : ∀ {v : Value} {xs : List Value}, SRow w16 48 8 v k2 xs → ∀ q, v.ownBlock = some q → ∃ cur, w16.heap[q]? = some (.cells cur 48 (0, 0)) := fun h q e => by
              rcases h.2 with ⟨e2, -⟩ | ⟨g, cap, cur, e2, hg, -⟩
              · rw [e2] at e; cases e
              · rw [e2] at e
                simp only [Value.ownBlock, Option.some.injEq] at e
                subst e
                exact ⟨cur, hg⟩
            exact fun q e => e.elim (hh HRX16.out q) (hh HRY16.out q)
          have HOSo := hid (HOS16.out.turn hupw (fun k _ e => ⟨by have h1 := (HR13.out k e).1; have h2 := HA7.out; have h3 := HG8.out; have h4 := HGT.out; have h5 := HG9.out; omega, fun e2 => by have h1 := (HR13.out k e).1; have h2 := HDK.out k e2; have h3 := HS97.out; omega, fun r hr e2 => by
            subst e2
            have h1 := HOS16.out.db.bes.rows r hr
            obtain ⟨cur, h2⟩ := hty _ e
            simp only [List.mem_cons, List.not_mem_nil, or_false] at hr
            rcases hr with rfl | rfl | rfl | rfl
            · exact not_ty h1 (by decide) _ _ h2
            · exact not_ty h1 (by decide) _ _ h2
            · exact not_ty h1 (by decide) _ _ h2
            · exact not_ty h1 (by decide) _ _ h2⟩) HUA.out.size)
          have HU7o := hid (HU7e.out.trans hupw (fun k hk e => by have h1 := (HR13.out k e).1; have h3 := HG8.out; have h4 := HGT.out; have h5 := HG9.out; omega))
          have HU9o := hid (HU9e.out.trans hupw (fun k hk e => by have h1 := (HR13.out k e).1; omega))
          have HUPW := hid hupw
          clear hrowX hrowY hupw hty
          have hrowo := HOSo.out.db.row (b := p1) (List.mem_cons_of_mem _ (List.mem_cons_of_mem _ (List.mem_cons_of_mem _ (List.mem_cons_self ..))))
          obtain ⟨⟨z0, z1, z2, z3, z4, z5, z6⟩, -, hzl⟩ := verCells hrowo
          have HEN := hid (encode_any (HT.out.keep HOSo.out.db.upd) (HVY.out wo HOSo.out.updA) HOKY.out)
          rw [← HE.out] at HEN
          clear hrowo
          go_wp2_with fail
          refine HEN.out.mono ?_
          rintro e wa ⟨v20, rfl, hn20⟩
          obtain ⟨g20, c20, e20, -, -⟩ := hn20.shape
          rw [← HN.out] at e20
          subst e20
          have HOSa := hid (HOSo.out.quiet hn20.upd)
          have HUa := hid ((Upd.refl (· ∈ s12.blocks) wo).trans hn20.upd (fun _ _ e => e.elim))
          have HC20 := hid hn20.data
          have HC20N := hid hn20.new
          have htx : DataIs wa (.slice (some ⟨gt, 0, none⟩) N ct) E := HTK.out.upd (HU9o.out.trans hn20.upd (fun _ _ e => e.elim)) (fun k hk e => by
            have h1 : gt = k := by simpa [Value.ownBlock] using hk
            subst h1
            rcases e with e | e
            · have h2 := HN8.out gt e; have h3 := HS76.out; have h4 := HG8.out; have h5 := HGT.out; omega
            · have h5 := HGT.out; omega)
          have HDC := hid (decode_any (w := wa) (HT.out.keep HOSa.out.db.upd) htx.bat (by rw [← HN.out]; have := HNB.out; omega))
          rw [HE.out, decode_encode HOKY.out HCY.out] at HDC
          have HTXa := hid htx
          clear hn20 htx z0 z1 z2 z3 z4 z5 z6 hzl HEN
          go_wp2_with fail
          refine HDC.out.mono ?_
          rintro e wb ⟨⟨v22, rfl, hown22⟩, hu22⟩
          have HOSb := hid (HOSa.out.quiet hu22)
          have HUb := hid (HUa.out.trans hu22 (fun _ _ e => e.elim))
          have HC20b := hid (HC20.out.upd hu22 (fun _ _ e => e))
          have HZO := hid hown22
          have HZB := hid (show wo.heap.size ≤ wa.heap.size from HUa.out.size)
          obtain ⟨o7, r7, o8, r8, hv22e, -, -⟩ := hown22.at
          obtain ⟨q1, q2, q3, q4, q5, q6, q7⟩ := HYS.out
          rw [← q1, ← q2, ← q3, ← q4, ← q5, ← q6, ← q7] at hv22e
          subst hv22e
          clear q1 q2 q3 q4 q5 q6 q7 hown22 hu22 HDC HOSa
          go_upto_region 28 with fail
          have HAL2 := hid ((Upd.refl (fun _ => False) wb).alloc (.cells #[.int .i64 y1, .int .i64 y2, .int .i64 y3, .int .i64 y4, .int .i64 y5, .slice o7 k1 r7, .slice o8 k2 r8] 25))
          have HOSd := hid (HOSb.out.push (.cells #[.int .i64 y1, .int .i64 y2, .int .i64 y3, .int .i64 y4, .int .i64 y5, .slice o7 k1 r7, .slice o8 k2 r8] 25))
          have HUd := hid (HUb.out.trans HAL2.out (fun _ _ e => e.elim))
          have HC20d := hid (HC20b.out.upd HAL2.out (fun _ _ e => e))
          have HZOd := hid (HZO.out.keep HAL2.out (fun _ e => e.elim))
          obtain ⟨p22, hp22⟩ : ∃ q, q = wb.heap.size := ⟨_, rfl⟩
          rw [← hp22] at HOSd ⊢
          generalize wb.alloc (.cells #[.int .i64 y1, .int .i64 y2, .int .i64 y3, .int .i64 y4, .int .i64 y5, .slice o7 k1 r7, .slice o8 k2 r8] 25) = wd at HOSd HUd HC20d HZOd ⊢
          clear hp22 HAL2 HOSb HUb HC20b HZO
          have HLO := hid (load_own (HT.out.keep HOSd.out.db.upd) HOSd.out.db.bes.ins (HOSd.out.db.zero HT.out) oB (by decide))
          rw [(HFL12.out.load oB_ok own_find HGOOD.out).1, HOSd.out.db.bes.pp] at HLO
          go_wp2_with fail
          refine HLO.out.mono ?_
          rintro e wf ⟨⟨v24, rfl, hown24⟩, s24, hst24, habs24, hbl24⟩
          have HOSf := hid (HOSd.out.step hst24)
          have HUf := hid (HUd.out.trans hst24.upd (fun _ _ e => e))
          have HDWo := hid (show ∀ k ∈ s12.blocks, k < wo.heap.size from HOSo.out.db.bes.ins.lt)
          have HC20f := hid (HC20d.out.upd hst24.upd (fun k hk e => by have h1 := HC20N.out k hk; have h2 := HDWo.out k e; omega))
          have HZOf := hid (HZOd.out.keep hst24.upd (fun k e => by have h2 := HDWo.out k e; have h3 := HZB.out; omega))
          have HUO := hid hown24.at
          obtain ⟨o9, r9, oA, rA, hv24e, -, -⟩ := hown24.at
          obtain ⟨q1, q2, q3, q4, q5, q6, q7⟩ := HYS.out
          rw [← q1, ← q2, ← q3, ← q4, ← q5, ← q6, ← q7] at hv24e
          subst hv24e
          clear q1 q2 q3 q4 q5 q6 q7 hown24 hst24 habs24 hbl24 HLO HOSd HUd HC20d HZOd
          go_upto_region 29 with fail
          have HAL3 := hid ((Upd.refl (fun _ => False) wf).alloc (.cells #[.int .i64 y1, .int .i64 y2, .int .i64 y3, .int .i64 y4, .int .i64 y5, .slice o9 k1 r9, .slice oA k2 rA] 25))
          have HOSg := hid (HOSf.out.push (.cells #[.int .i64 y1, .int .i64 y2, .int .i64 y3, .int .i64 y4, .int .i64 y5, .slice o9 k1 r9, .slice oA k2 rA] 25))
          have HUg := hid (HUf.out.trans HAL3.out (fun _ _ e => e.elim))
          have HC20g := hid (HC20f.out.upd HAL3.out (fun _ _ e => e))
          have HZOg := hid (HZOf.out.keep HAL3.out (fun _ e => e.elim))
          have HUOg := hid (HUO.out.keep HAL3.out)
          obtain ⟨p24, hp24⟩ : ∃ q, q = wf.heap.size := ⟨_, rfl⟩
          rw [← hp24] at HOSg ⊢
          generalize wf.alloc (.cells #[.int .i64 y1, .int .i64 y2, .int .i64 y3, .int .i64 y4, .int .i64 y5, .slice o9 k1 r9, .slice oA k2 rA] 25) = wg at HOSg HUg HC20g HZOg HUOg ⊢
          clear hp24 HAL3 HOSf HUf HC20f HZOf HUO
          have h3b : ∀ k, k ∈ s12.blocks → k ∈ s3.blocks := fun k e => by rw [← HBL12.out]; exact e
          have HWASg := hid ((HWK.out.keep (HU7o.out.trans HUg.out (fun k _ e => h3b k e)) HN8.out).at)
          have HTXg := hid (show DataIs wg (.slice (some ⟨gt, 0, none⟩) N ct) E from HTK.out.upd (HU9o.out.trans HUg.out (fun k _ e => .inl (h3b k e))) (fun k hk e => by
            have h1 : gt = k := by simpa [Value.ownBlock] using hk
            subst h1
            rcases e with e | e
            · have h2 := HN8.out gt e; have h3 := HS76.out; have h4 := HG8.out; have h5 := HGT.out; omega
            · have h5 := HGT.out; omega))
          have HVYg := hid (HVY.out wg HOSg.out.updA)
          have HRL64 := hid (show y.runs.length ≤ 140737488351232 from by have h1 := HYS.out.2.2.2.2.2.2; have h2 := HK64.out; omega)
          have HSM := hid (lawSame_any (w := wg) HC20g.out.bat HTXg.out.bat)
          rw [show decide (E = E) = true from decide_eq_true rfl] at HSM
          (try rw [← HN.out] at HSM)
          clear h3b
          go_wp2_with fail
          refine HSM.out.mono ?_
          rintro e W ⟨rfl, hww⟩
          obtain rfl := hww.symm
          go_wp2_with fail
          refine (lawNum_any _ _ (by omega)).mono ?_
          rintro e W ⟨rfl, hww⟩
          obtain rfl := hww.symm
          go_wp2_with fail
          refine (lawNum_any _ _ (by omega)).mono ?_
          rintro e W ⟨rfl, hww⟩
          obtain rfl := hww.symm
          have hra := HOSg.out.db.row (b := p22) (List.mem_cons_of_mem _ (List.mem_cons_self ..))
          have hrb := HOSg.out.db.row (b := p5) (List.mem_cons_of_mem _ (List.mem_cons_of_mem _ (List.mem_cons_of_mem _ (List.mem_cons_of_mem _ (List.mem_cons_self ..)))))
          obtain ⟨⟨z0, z1, z2, z3, z4, z5, z6⟩, -, hzl⟩ := verCells hra
          obtain ⟨⟨x0, x1, x2, x3, x4, x5, x6⟩, -, hxl⟩ := verCells hrb
          clear hra hrb
          go_wp2_with fail
          refine (sameVer_any HZOg.out.at HWASg.out HRL64.out).mono ?_
          rintro e wh ⟨rfl, hux⟩
          rw [show sameVerB y y = true from sameVerB_iff.2 rfl]
          have HOSh := hid (HOSg.out.quiet hux)
          have HUh := hid (HUg.out.trans hux (fun _ _ e => e.elim))
          have HWASh := hid (HWASg.out.keep hux)
          have HUOh := hid (HUOg.out.keep hux)
          have HVYh := hid (HVYg.out.keep hux)
          clear hux z0 z1 z2 z3 z4 z5 z6 hzl x0 x1 x2 x3 x4 x5 x6 hxl
          have hra := HOSh.out.db.row (b := p24) (List.mem_cons_self ..)
          have hrb := HOSh.out.db.row (b := p5) (List.mem_cons_of_mem _ (List.mem_cons_of_mem _ (List.mem_cons_of_mem _ (List.mem_cons_of_mem _ (List.mem_cons_self ..)))))
          obtain ⟨⟨z0, z1, z2, z3, z4, z5, z6⟩, -, hzl⟩ := verCells hra
          obtain ⟨⟨x0, x1, x2, x3, x4, x5, x6⟩, -, hxl⟩ := verCells hrb
          clear hra hrb
          go_wp2_with fail
          refine (sameVer_any HUOh.out HWASh.out HRL64.out).mono ?_
          rintro e wj ⟨rfl, hux⟩
          rw [show sameVerB y y = true from sameVerB_iff.2 rfl]
          have HOSj := hid (HOSh.out.quiet hux)
          have HUj := hid (HUh.out.trans hux (fun _ _ e => e.elim))
          have HWASj := hid (HWASh.out.keep hux)
          have HUOj := hid (HUOh.out.keep hux)
          have HVYj := hid (HVYh.out.keep hux)
          clear hux z0 z1 z2 z3 z4 z5 z6 hzl x0 x1 x2 x3 x4 x5 x6 hxl
          have hra := HOSj.out.db.row (b := p1) (List.mem_cons_of_mem _ (List.mem_cons_of_mem _ (List.mem_cons_of_mem _ (List.mem_cons_of_mem _ (List.mem_cons_of_mem _ (List.mem_cons_self ..))))))
          have hrb := HOSj.out.db.row (b := p5) (List.mem_cons_of_mem _ (List.mem_cons_of_mem _ (List.mem_cons_of_mem _ (List.mem_cons_of_mem _ (List.mem_cons_self ..)))))
          obtain ⟨⟨z0, z1, z2, z3, z4, z5, z6⟩, -, hzl⟩ := verCells hra
          obtain ⟨⟨x0, x1, x2, x3, x4, x5, x6⟩, -, hxl⟩ := verCells hrb
          clear hra hrb
          go_wp2_with fail
          refine (sameVer_any HVYj.out HWASj.out HRL64.out).mono ?_
          rintro e wz ⟨rfl, hux⟩
          rw [show sameVerB y y = true from sameVerB_iff.2 rfl]
          have HOSz := hid (HOSj.out.quiet hux)
          have HUz := hid (HUj.out.trans hux (fun _ _ e => e.elim))
          have HWASz := hid (HWASj.out.keep hux)
          have HUOz := hid (HUOj.out.keep hux)
          have HVYz := hid (HVYj.out.keep hux)
          clear hux z0 z1 z2 z3 z4 z5 z6 hzl x0 x1 x2 x3 x4 x5 x6 hxl
          clear HOSg HOSh HOSj HUg HUh HUj HWASg HWASh HWASj HWASz HUOg HUOh HUOj HUOz HVYg HVYh HVYj HVYz HSM
          have HUWZ := hid (show Upd (fun k => ((Value.slice o4 k2 r4).ownBlock = some k ∨ (Value.slice o6 k2 r6).ownBlock = some k) ∨ k ∈ s12.blocks) w16 wz from (HUPW.out.mono (fun _ _ e => .inl e)).trans HUz.out (fun _ _ e => .inr e))
          have hdq : ∀ q, w9.heap.size ≤ q → q ∉ s12.blocks := fun q h e => by have h1 := HDK.out q e; have h2 := HS97.out; omega
          have HZX := hid (SRow.upd HZX0.out HUz.out (fun q e e2 => hdq q (HR13.out q (.inl e)).1 e2))
          have HZY := hid (SRow.upd HZY0.out HUz.out (fun q e e2 => hdq q (HR13.out q (.inr e)).1 e2))
          have hrlz := HUWZ.out.get HRL16.out (fun e => by
            rcases e with e | e
            · have h1 := (HR13.out grl e).2; have h2 := HGRL.out; omega
            · have h1 := HDK.out grl e; have h2 := HGRL.out; have h3 := HS97.out; have h4 := HS119.out; have h5 := HS1211.out; have h6 := HXL.out; have h7 := HOS15.out; have h8 := HR9.out; have h9 := HB13.out.lt g8 rfl; have h10 := HG8.out; have h11 := HS76.out; omega)
          have cg0 : wz.cell? ⟨grl, 0, none⟩ = some (.slice o4 k2 r4) := cell_of_row wz grl 0 _ _ _ hrlz
          have cg1 : wz.cell? ⟨grl, 1, none⟩ = some (.slice o6 k2 r6) := cell_of_row wz grl 1 _ _ _ hrlz
          have cgl : grl < wz.heap.size := lt_of_heap hrlz
          have HSTD := hid (GrownO.stand HGR.out HLS15.out HUWZ.out (fun k e => by
            have hk13 : w9.heap.size ≤ k ∧ k < w13.heap.size ∨ k < w5.heap.size := by
              rcases e with e | e
              · exact .inl (HR13.out k e)
              · exact .inr (HDK.out k e)
            have h15 : w13.heap.size ≤ w15.heap.size := Nat.le_trans HLU.out.size HAL.out.size
            have h913 : w5.heap.size ≤ w13.heap.size := by have h9 := HB13.out.lt g8 rfl; have h10 := HG8.out; have h11 := HS76.out; omega
            refine ⟨by omega, fun e2 => ?_, fun e2 => by have h1 := HLOWN.out k e2; omega⟩
            rcases e with e | e
            · exact HNBX.out k e e2
            · have h1 := (HVB.out k e2).1; have h2 := HDK.out k e; have h3 := HS76.out; omega))
          clear hdq hrlz
          go_wp2
          go_loopw [27] (fun iv wr => wr = wr ∧ wr = wz ∧ ∃ j : Nat, j ≤ 2 ∧ iv = .int .i64 j) (fun iv _ => 2 - (intOf iv).toNat)
          case atStart => exact ⟨rfl, rfl, 0, by omega, rfl⟩
          case round =>
            obtain ⟨-, hww4, j, hj, rfl⟩ := hrel
            obtain rfl := hww4.symm
            rcases j with _ | _ | _ | j
            · rw [show ((((0 : Nat)) : Int)) = 0 from rfl]
              go_wp2
              go_loopw [28] (fun kv wr => wr = wr ∧ wr = wz ∧ ∃ k : Nat, k ≤ k2 ∧ kv = .int .i64 k) (fun kv _ => k2 - (intOf kv).toNat)
              case atStart => exact ⟨rfl, rfl, 0, Nat.zero_le _, rfl⟩
              case round =>
                obtain ⟨-, hww5, k, hk, rfl⟩ := hrel
                obtain rfl := hww5.symm
                by_cases hkk : k < k2
                · obtain ⟨g, cap, e, hgl, hc⟩ := SRow.cell HZX.out (k := k * 8 + 0) (u := .int .i64 (-5)) (rep_at (M := numC (-5)) hkk (j := 0) (by decide))
                  injection e with e1 _ e3
                  subst e1; subst e3
                  simp only [Nat.add_zero] at hc
                  have hki : (k : Int) < (k2 : Int) := by omega
                  go_wp2
                  go_roundw
                  case rel => exact ⟨by trivial, by trivial, k + 1, by omega, by go_num⟩
                  case measure => simp [intOf]; omega
                · obtain rfl : k = k2 := by omega
                  go_wp2
                  go_roundw
                  case rel => exact ⟨by trivial, by trivial, 1, by omega, by go_num⟩
                  case measure => simp [intOf]
            · rw [show ((((1 : Nat)) : Int)) = 1 from rfl]
              go_wp2
              go_loopw [28] (fun kv wr => wr = wr ∧ wr = wz ∧ ∃ k : Nat, k ≤ k2 ∧ kv = .int .i64 k) (fun kv _ => k2 - (intOf kv).toNat)
              case atStart => exact ⟨rfl, rfl, 0, Nat.zero_le _, rfl⟩
              case round =>
                obtain ⟨-, hww5, k, hk, rfl⟩ := hrel
                obtain rfl := hww5.symm
                by_cases hkk : k < k2
                · obtain ⟨g, cap, e, hgl, hc⟩ := SRow.cell HZY.out (k := k * 8 + 0) (u := .int .i64 (-6)) (rep_at (M := numC (-6)) hkk (j := 0) (by decide))
                  injection e with e1 _ e3
                  subst e1; subst e3
                  simp only [Nat.add_zero] at hc
                  have hki : (k : Int) < (k2 : Int) := by omega
                  go_wp2
                  go_roundw
                  case rel => exact ⟨by trivial, by trivial, k + 1, by omega, by go_num⟩
                  case measure => simp [intOf]; omega
                · obtain rfl : k = k2 := by omega
                  go_wp2
                  go_roundw
                  case rel => exact ⟨by trivial, by trivial, 2, by omega, by go_num⟩
                  case measure => simp [intOf]
            · rw [show ((((0 + 1 + 1 : Nat)) : Int)) = 2 from rfl]
              have HSD := hid (stand_any HSTD.out (by rw [HLSL.out]; have := HLNB.out; omega))
              go_wp2_with fail
              refine HSD.out.mono ?_
              rintro e W ⟨rfl, hww⟩
              obtain rfl := hww.symm
              go_wp2
              go_ret
              exact ⟨rfl, HOSz.out.db.upd⟩
            · omega
        · omega

end Go.Proofs.YtgaidmohdhaonaaGreatDoor
