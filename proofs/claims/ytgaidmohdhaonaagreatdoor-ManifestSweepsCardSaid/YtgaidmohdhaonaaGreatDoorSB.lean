/-
  stratalaw10.follow.
  A region that draws its order: two operations may come up.
  A disk that was made since the call began, with boxes beside it; lists of versions that came in.
-/
import Derived.Test.YtgaidmohdhaonaaGreatDoorYU
import Derived.Test.YtgaidmohdhaonaaGreatDoorZB
import Derived.Test.YtgaidmohdhaonaaGreatDoorYP
import Derived.Test.YtgaidmohdhaonaaGreatDoorYI
import Derived.Test.YtgaidmohdhaonaaGreatDoorYJ
import Derived.Test.YtgaidmohdhaonaaGreatDoorYK
import Derived.Test.YtgaidmohdhaonaaGreatDoorSA
namespace Go.Proofs.YtgaidmohdhaonaaGreatDoor
set_option linter.unusedVariables false
set_option linter.unusedSimpArgs false
set_option linter.unnecessarySimpa false
set_option linter.unusedSectionVars false
open Go Go.RowKit

/-- The version of a list that follows. -/
def followA (x : VerA) (g : Int) : VerA := if okA { x with gen := g } = true then { x with gen := g } else ⟨g, g % 1000, 1 + g % 7, 0, 1, [], []⟩

theorem followA_ok {x : VerA} {g : Int} (h : 1 ≤ g ∧ g ≤ 1000) : okA (followA x g) = true := by
  unfold followA
  split
  · assumption
  · unfold okA headA ins
    simp
    omega
theorem followA_gen (x : VerA) (g : Int) : (followA x g).gen = g := by unfold followA; split <;> rfl
theorem followA_count {x : VerA} {g : Int} (h : ∀ r ∈ x.runs, r.count ≤ 9223372036854775807) : ∀ r ∈ (followA x g).runs, r.count ≤ 9223372036854775807 := by
  unfold followA
  split
  · exact h
  · intro r hr; cases hr

set_option maxRecDepth 100000 in
set_option maxHeartbeats 6400000 in
theorem follow_any {w : World} {v : Value} {x : VerA} {g : Int} (hv : VerAt w v x) (hl : ∀ r ∈ x.runs, r.first.length ≤ 140737488351232 ∧ r.last.length ≤ 140737488351232) (hg : 1 ≤ g ∧ g ≤ 1000) :
    Calls Tryz.prog 15 #[v, .int .i64 g] w fun e w' => ∃ v', e = .returned v' ∧ (∀ W, VerAt W v x → VerAt W v' (followA x g)) ∧ Upd (fun _ => False) w w' := by
  obtain ⟨s1, d1, s2, d2, rfl, hvs, hvr⟩ := hv
  have HV := hid (show ∀ W, BAt W (.slice s1 x.state.length d1) x.state → RunsAt W (.slice s2 x.runs.length d2) x.runs → VerAt W (.agg #[.int .i64 g, .int .i64 x.flushed, .int .i64 x.next, .int .i64 x.low, .int .i64 x.clock, .slice s1 x.state.length d1, .slice s2 x.runs.length d2]) { x with gen := g } from fun W h1 h2 => ⟨s1, d1, s2, d2, rfl, h1, h2⟩)
  have HVS := hid hvs; have HVR := hid hvr; have HL := hid hl
  have HFO := hid (show followA x g = if okA { x with gen := g } = true then { x with gen := g } else ⟨g, g % 1000, 1 + g % 7, 0, 1, [], []⟩ from rfl)
  obtain ⟨m1, hm1⟩ : ∃ m, m = x.state.length := ⟨_, rfl⟩
  obtain ⟨m2, hm2⟩ : ∃ m, m = x.runs.length := ⟨_, rfl⟩
  rw [← hm1, ← hm2] at HV ⊢
  rw [← hm1] at HVS
  rw [← hm2] at HVR
  have HM1 := hid hm1; have HM2 := hid hm2; have HG := hid hg
  have HVA := hid (show ∀ W, VerAt W (.agg #[.int .i64 x.gen, .int .i64 x.flushed, .int .i64 x.next, .int .i64 x.low, .int .i64 x.clock, .slice s1 m1 d1, .slice s2 m2 d2]) x → BAt W (.slice s1 m1 d1) x.state ∧ RunsAt W (.slice s2 m2 d2) x.runs from by
    rintro W ⟨s1', d1', s2', d2', e, h1, h2⟩
    rw [hm1, hm2] at e ⊢
    injection e with e
    simp only [Array.mk.injEq, List.cons.injEq, true_and, and_true] at e
    obtain ⟨e1, e2⟩ := e
    rw [← e1] at h1
    rw [← e2] at h2
    exact ⟨h1, h2⟩)
  have hu1 := ((Upd.refl (fun _ => False) w).alloc (.cells #[.int .i64 x.gen, .int .i64 x.flushed, .int .i64 x.next, .int .i64 x.low, .int .i64 x.clock, .slice s1 m1 d1, .slice s2 m2 d2] 25)).alloc (.cells (verC 0 0 0 0 0 (.slice none 0 0) (.slice none 0 0)) 25)
  have hr1 := heap_alloc_new w (.cells #[.int .i64 x.gen, .int .i64 x.flushed, .int .i64 x.next, .int .i64 x.low, .int .i64 x.clock, .slice s1 m1 d1, .slice s2 m2 d2] 25)
  have hr1' := (Upd.refl (fun _ => False) (w.alloc (.cells #[.int .i64 x.gen, .int .i64 x.flushed, .int .i64 x.next, .int .i64 x.low, .int .i64 x.clock, .slice s1 m1 d1, .slice s2 m2 d2] 25))).alloc (.cells (verC 0 0 0 0 0 (.slice none 0 0) (.slice none 0 0)) 25) |>.get hr1 (fun e => e)
  have hr2 := heap_alloc_new (w.alloc (.cells #[.int .i64 x.gen, .int .i64 x.flushed, .int .i64 x.next, .int .i64 x.low, .int .i64 x.clock, .slice s1 m1 d1, .slice s2 m2 d2] 25)) (.cells (verC 0 0 0 0 0 (.slice none 0 0) (.slice none 0 0)) 25)
  rw [World.size_alloc] at hr2
  have HU1 := hid hu1; have HR1 := hid hr1'; have HR2 := hid hr2
  clear hvs hvr hl hm1 hm2 hu1 hr1 hr1' hr2 hg
  go_enter Tryz.func15, Tryz.ntmps15
  go_upto_region 1 with fail
  obtain ⟨p, hp⟩ : ∃ p, p = w.heap.size := ⟨_, rfl⟩
  obtain ⟨q, hq⟩ : ∃ q, q = w.heap.size + 1 := ⟨_, rfl⟩
  rw [← hp] at HR1
  rw [← hq] at HR2
  (try simp only [World.size_alloc])
  rw [← hq, ← hp]
  have HPQ := hid (And.intro hp hq)
  have HNE := hid (show p ≠ q by omega)
  generalize (w.alloc (.cells #[.int .i64 x.gen, .int .i64 x.flushed, .int .i64 x.next, .int .i64 x.low, .int .i64 x.clock, .slice s1 m1 d1, .slice s2 m2 d2] 25)).alloc (.cells #[.int .i64 0, .int .i64 0, .int .i64 0, .int .i64 0, .int .i64 0, .slice none 0 0, .slice none 0 0] 25) = W1 at HU1 HR1 HR2 ⊢
  clear hp hq
  obtain ⟨⟨z0, z1, z2, z3, z4, z5, z6⟩, ⟨y0, y1, y2, y3, y4, y5, y6⟩, hzl⟩ := verCells HR1.out
  go_upto_region 2 with fail
  have HU2 := hid (HU1.out.setCell (p := ⟨p, 0, none⟩) (fun e => by have := HPQ.out.1; simp only at e; omega) (.int .i64 g))
  have hb2 := heap_setCell_at W1 p 0 _ _ (.int .i64 g) HR1.out
  have HB2 := hid (show (W1.setCell ⟨p, 0, none⟩ (.int .i64 g)).heap[p]? = some (.cells #[.int .i64 g, .int .i64 x.flushed, .int .i64 x.next, .int .i64 x.low, .int .i64 x.clock, .slice s1 m1 d1, .slice s2 m2 d2] 25 (0, 0)) from by rw [hb2]; simp)
  have HQ2 := hid (show (W1.setCell ⟨p, 0, none⟩ (.int .i64 g)).heap[q]? = some (.cells (verC 0 0 0 0 0 (.slice none 0 0) (.slice none 0 0)) 25 (0, 0)) from by rw [heap_setCell_ne _ _ _ _ (fun e => HNE.out e.symm)]; exact HR2.out)
  generalize W1.setCell ⟨p, 0, none⟩ (.int .i64 g) = W2 at HU2 HB2 HQ2 ⊢
  clear hb2 z0 z1 z2 z3 z4 z5 z6 y0 y1 y2 y3 y4 y5 y6 hzl HU1 HR1 HR2
  obtain ⟨⟨z0, z1, z2, z3, z4, z5, z6⟩, -, hzl⟩ := verCells HB2.out
  have HCH := hid (refCheck10_any (HV.out W2 (HVS.out.keep HU2.out) (HVR.out.keep HU2.out)) HL.out)
  by_cases hok : okA { x with gen := g } = true
  · rw [show checkA { x with gen := g } = 0 from by unfold checkA; rw [if_pos hok]] at HCH
    rw [if_pos hok] at HFO
    clear hok
    go_wp2_with fail
    refine HCH.out.mono ?_
    rintro e W3 ⟨rfl, hu3⟩
    have HU3 := hid (HU2.out.trans hu3 (fun _ _ e => e))
    have hb3 := hu3.get HB2.out (fun e => e)
    have hq3 := hu3.get HQ2.out (fun e => e)
    clear hu3 z0 z1 z2 z3 z4 z5 z6 hzl HCH
    obtain ⟨⟨z0, z1, z2, z3, z4, z5, z6⟩, -, hzl⟩ := verCells hb3
    obtain ⟨⟨x0, x1, x2, x3, x4, x5, x6⟩, ⟨y0, y1, y2, y3, y4, y5, y6⟩, hyl⟩ := verCells hq3
    have HO := hid (And.intro (verOut_at hq3 g x.flushed x.next x.low x.clock (.slice s1 m1 d1) (.slice s2 m2 d2)) (verOut_upd HU3.out (p := q) (fun e => by have := HPQ.out.2; omega) g x.flushed x.next x.low x.clock (.slice s1 m1 d1) (.slice s2 m2 d2)))
    clear hb3 hq3
    go_wp2
    (try simp only [Exit.inBlock, Exit.then])
    refine bodyPost_ret (results_ver1 rfl _ _ q _ rfl rfl HO.out.1) rfl ?_
    refine ⟨_, rfl, fun W hW => ?_, HO.out.2⟩
    rw [HFO.out]
    obtain ⟨h1, h2⟩ := HVA.out W hW
    exact HV.out W h1 h2
  · have hok' : okA { x with gen := g } = false := by simpa using hok
    rw [show checkA { x with gen := g } = 101 from by unfold checkA; rw [hok']; rfl] at HCH
    rw [if_neg hok] at HFO
    clear hok hok'
    go_wp2_with fail
    refine HCH.out.mono ?_
    rintro e W3 ⟨rfl, hu3⟩
    have HU3 := hid (HU2.out.trans hu3 (fun _ _ e => e))
    have hb3 := hu3.get HB2.out (fun e => e)
    have hq3 := hu3.get HQ2.out (fun e => e)
    clear hu3 z0 z1 z2 z3 z4 z5 z6 hzl HCH
    obtain ⟨⟨v0, v1, v2, v3, v4, v5, v6⟩, ⟨z0, z1, z2, z3, z4, z5, z6⟩, hzl⟩ := verCells hb3
    obtain ⟨a, ha⟩ : ∃ a, a = g % 1000 := ⟨_, rfl⟩
    obtain ⟨b, hb⟩ : ∃ b, b = g % 7 := ⟨_, rfl⟩
    rw [← ha, ← hb] at HFO
    have hg1 : g.tmod 1000 = a := by rw [ha]; exact Int.tmod_eq_emod_of_nonneg (by have := HG.out; omega)
    have hg7 : g.tmod 7 = b := by rw [hb]; exact Int.tmod_eq_emod_of_nonneg (by have := HG.out; omega)
    have hb0 : 0 ≤ b := by omega
    have hb7 : b < 7 := by omega
    have HO3 := hid (And.intro (verOut_at hb3 g a (1 + b) 0 1 (.slice none 0 0) (.slice none 0 0)) (verOut_upd HU3.out (p := p) (fun e => by have := HPQ.out.1; omega) g a (1 + b) 0 1 (.slice none 0 0) (.slice none 0 0)))
    have HQ3 := hid (show (verOut W3 p g a (1 + b) 0 1 (.slice none 0 0) (.slice none 0 0)).heap[q]? = some (.cells (verC 0 0 0 0 0 (.slice none 0 0) (.slice none 0 0)) 25 (0, 0)) from by
      have hne : ∀ j : Nat, q ≠ (⟨p, j, none⟩ : Addr).block := fun j e => HNE.out e.symm
      unfold verOut
      rw [heap_setCell_ne _ _ _ _ (hne 6), heap_setCell_ne _ _ _ _ (hne 5), heap_setCell_ne _ _ _ _ (hne 4), heap_setCell_ne _ _ _ _ (hne 3), heap_setCell_ne _ _ _ _ (hne 2), heap_setCell_ne _ _ _ _ (hne 1), heap_setCell_ne _ _ _ _ (hne 0)]
      exact hq3)
    clear hb3 hq3 ha hb
    go_upto_region 4 with fail
    clear v0 v1 v2 v3 v4 v5 v6 z0 z1 z2 z3 z4 z5 z6 hzl hg1 hg7 hb0 hb7
    unfold verOut at HO3 HQ3
    generalize (((((((W3.setCell ⟨p, 0, none⟩ (.int .i64 g)).setCell ⟨p, 1, none⟩ (.int .i64 a)).setCell ⟨p, 2, none⟩ (.int .i64 (1 + b))).setCell ⟨p, 3, none⟩ (.int .i64 0)).setCell ⟨p, 4, none⟩ (.int .i64 1)).setCell ⟨p, 5, none⟩ (.slice none 0 0)).setCell ⟨p, 6, none⟩ (.slice none 0 0)) = W4 at HO3 HQ3 ⊢
    obtain ⟨⟨x0, x1, x2, x3, x4, x5, x6⟩, -, hxl⟩ := verCells HO3.out.1
    obtain ⟨⟨q0, q1, q2, q3, q4, q5, q6⟩, ⟨y0, y1, y2, y3, y4, y5, y6⟩, hyl⟩ := verCells HQ3.out
    have HO := hid (And.intro (verOut_at HQ3.out g a (1 + b) 0 1 (.slice none 0 0) (.slice none 0 0)) (verOut_upd HO3.out.2 (p := q) (fun e => by have := HPQ.out.2; omega) g a (1 + b) 0 1 (.slice none 0 0) (.slice none 0 0)))
    go_wp2
    (try simp only [Exit.inBlock, Exit.then])
    refine bodyPost_ret (results_ver1 rfl _ _ q _ rfl rfl HO.out.1) rfl ?_
    refine ⟨_, rfl, fun W hW => ?_, HO.out.2⟩
    rw [HFO.out]
    exact ⟨none, 0, none, 0, rfl, ⟨none, 0, rfl, by simp, by simp, (fun _ => ⟨rfl, rfl⟩), (fun j hj => absurd hj (by simp))⟩, ⟨none, 0, rfl, by simp, by simp, (fun k hk => absurd hk (by simp))⟩⟩

end Go.Proofs.YtgaidmohdhaonaaGreatDoor

namespace Go.Proofs.YtgaidmohdhaonaaGreatDoor
set_option linter.unusedVariables false
set_option linter.unusedSimpArgs false
open Go

section
variable {P : Program} {Q : Exit → Act → World → Prop} {md : Region.Mode} {S : World → Prop} {z : Nat}

/-- Two may come up. -/
theorem wpAnyL_two {l : List Oper} (i j : Nat) {oi oj : Oper} {fuel : Nat} {listed : Array Bool} {a : Act} {w : World} (hoi : l[i]? = some oi) (hoj : l[j]? = some oj) (hr : Region.ready md l.toArray listed = [i, j])
    (h1 : ∀ K' : Act → World → Prop, Shut (∀ a w, (i ≠ z → S w) → wpAnyL P md l.toArray Q S z fuel (listed.setIfInBounds i true) a w → K' a w) →
      if Region.wanted oi (yielded l.toArray a.tmps) = true then Oper.wp P oi a w K' Q else K' (a.put oi.dst undef) w)
    (h2 : ∀ K' : Act → World → Prop, Shut (∀ a w, (j ≠ z → S w) → wpAnyL P md l.toArray Q S z fuel (listed.setIfInBounds j true) a w → K' a w) →
      if Region.wanted oj (yielded l.toArray a.tmps) = true then Oper.wp P oj a w K' Q else K' (a.put oj.dst undef) w) :
    wpAnyL P md l.toArray Q S z (fuel + 1) listed a w := by
  refine ⟨fun h0 => (by rw [hr] at h0; cases h0), fun k hk => ?_⟩
  rw [hr] at hk
  simp only [List.mem_cons, List.not_mem_nil, or_false] at hk
  rcases hk with rfl | rfl
  · exact wpOp_step (by simpa using hoi) (fun K' hK => h1 K' (fun a w h1 h2 => hK a w ⟨h1, h2⟩))
  · exact wpOp_step (by simpa using hoj) (fun K' hK => h2 K' (fun a w h1 h2 => hK a w ⟨h1, h2⟩))

end
end Go.Proofs.YtgaidmohdhaonaaGreatDoor

namespace Go.Proofs.YtgaidmohdhaonaaGreatDoor
set_option linter.unusedVariables false
set_option linter.unusedSimpArgs false
set_option linter.unnecessarySimpa false
set_option linter.unusedSectionVars false
open Go Go.RowKit

/-- A disk made since w, with boxes beside it that were made since w too. -/
structure DB (w W : World) (p : Nat) (s : DS) (R : List (Nat × Obj)) : Prop where
  bes : Beside W s p R
  low : ∀ k ∈ s.blocks, w.heap.size ≤ k
  new : ∀ r ∈ R, w.heap.size ≤ r.1
  upd : Upd (fun _ => False) w W

theorem DB.zero {w W : World} {p : Nat} {s : DS} {R : List (Nat × Obj)} (h : DB w W p s R) (hT : TabIn w) : 0 ∉ s.blocks := fun e => by have := h.low 0 e; have := hT.1; omega
theorem DB.tab {w W : World} {p : Nat} {s : DS} {R : List (Nat × Obj)} (h : DB w W p s R) (hT : TabIn w) : TabIn W := hT.keep h.upd
theorem DB.step {w W W' : World} {p : Nat} {s s2 : DS} {R : List (Nat × Obj)} (h : DB w W p s R) (hst : Step W W' s s2) : DB w W' p s2 R :=
  ⟨h.bes.step hst, fun k hk => (hst.foot k hk).elim (h.low k) (fun e => Nat.le_trans h.upd.size e), h.new, h.upd.trans hst.upd (fun k hk e => by have := h.low k e; omega)⟩
theorem DB.quiet {w W W' : World} {p : Nat} {s : DS} {R : List (Nat × Obj)} (h : DB w W p s R) (hu : Upd (fun _ => False) W W') : DB w W' p s R :=
  ⟨h.bes.upd hu, h.low, h.new, h.upd.trans hu (fun _ _ e => e)⟩
theorem DB.push {w W : World} {p : Nat} {s : DS} {R : List (Nat × Obj)} (h : DB w W p s R) (o : Obj) : DB w (W.alloc o) p s ((W.heap.size, o) :: R) :=
  ⟨h.bes.push o, h.low, fun r hr => by
    rcases List.mem_cons.1 hr with rfl | hr
    · exact h.upd.size
    · exact h.new r hr, h.upd.alloc o⟩
theorem DB.sub {w W : World} {p : Nat} {s : DS} {R R' : List (Nat × Obj)} (h : DB w W p s R) (hR : ∀ r ∈ R', r ∈ R) : DB w W p s R' :=
  ⟨h.bes.sub hR, h.low, fun r hr => h.new r (hR r hr), h.upd⟩
theorem DB.row {w W : World} {p : Nat} {s : DS} {R : List (Nat × Obj)} (h : DB w W p s R) {b : Nat} {o : Obj} (hr : (b, o) ∈ R) : W.heap[b]? = some o := h.bes.rows _ hr
/-- One box is written. -/
theorem DB.set {w W W' : World} {p b : Nat} {s : DS} {R R' : List (Nat × Obj)} {o o' : Obj} (h : DB w W p s R) (hb : (b, o) ∈ R) (hu : Upd (fun k => k = b) W W') (ho : W'.heap[b]? = some o') (hR : ∀ r ∈ R', r ∈ R ∧ r.1 ≠ b) : DB w W' p s ((b, o') :: R') := by
  have hbo : b ∉ s.blocks := h.bes.out _ hb
  refine ⟨⟨h.bes.ins.upd hu (fun k hk e => hbo (e ▸ hk)), h.bes.pp, fun r hr => ?_, fun r hr => ?_⟩, h.low, fun r hr => ?_, h.upd.trans hu (fun k hk e => by have := h.new _ hb; simp only at this; omega)⟩
  · rcases List.mem_cons.1 hr with rfl | hr
    · exact ho
    · exact hu.get (h.bes.rows r (hR r hr).1) (hR r hr).2
  · rcases List.mem_cons.1 hr with rfl | hr
    · exact hbo
    · exact h.bes.out r (hR r hr).1
  · rcases List.mem_cons.1 hr with rfl | hr
    · show w.heap.size ≤ b; exact h.new (b, o) hb
    · exact h.new r (hR r hr).1

/-- A new box beside. -/
theorem DB.add {w W : World} {p b : Nat} {s : DS} {R : List (Nat × Obj)} {o : Obj} (h : DB w W p s R) (hb : W.heap[b]? = some o) (hn : w.heap.size ≤ b) (ho : b ∉ s.blocks) : DB w W p s ((b, o) :: R) :=
  ⟨⟨h.bes.ins, h.bes.pp, fun r hr => by
    rcases List.mem_cons.1 hr with rfl | hr
    · exact hb
    · exact h.bes.rows r hr, fun r hr => by
    rcases List.mem_cons.1 hr with rfl | hr
    · exact ho
    · exact h.bes.out r hr⟩, h.low, fun r hr => by
    rcases List.mem_cons.1 hr with rfl | hr
    · exact hn
    · exact h.new r hr, h.upd⟩
theorem DB.fresh {w W : World} {p b : Nat} {s : DS} {R : List (Nat × Obj)} (h : DB w W p s R) (hb : W.heap.size ≤ b) : b ∉ s.blocks := fun e => by have := h.bes.ins.lt b e; omega

theorem DB.start {w w1 : World} {s : DS} (hs : s.In w1) (hb : ∀ k ∈ s.blocks, w.heap.size ≤ k) (hu : Upd (fun _ => False) w w1) : DB w w1 s.p s [] :=
  ⟨⟨hs, rfl, (fun r hr => by cases hr), (fun r hr => by cases hr)⟩, hb, (fun r hr => by cases hr), hu⟩

/-- A list of versions that came in. -/
def VersAt (w : World) (v : Value) (l : List VerA) : Prop :=
  ∃ ao cap, v = .slice ao l.length cap ∧ l.length ≤ cap ∧ cap ≤ 9223372036854775807 ∧ ∀ k (hk : k < l.length), ∃ b o s1 d1 s2 d2, ao = some ⟨b, o, none⟩ ∧ b < w.heap.size ∧
    w.cell? ⟨b, o + k * 7, none⟩ = some (.int .i64 l[k].gen) ∧ w.cell? ⟨b, o + k * 7 + 1, none⟩ = some (.int .i64 l[k].flushed) ∧ w.cell? ⟨b, o + k * 7 + 2, none⟩ = some (.int .i64 l[k].next) ∧
    w.cell? ⟨b, o + k * 7 + 3, none⟩ = some (.int .i64 l[k].low) ∧ w.cell? ⟨b, o + k * 7 + 4, none⟩ = some (.int .i64 l[k].clock) ∧
    w.cell? ⟨b, o + k * 7 + 5, none⟩ = some (.slice s1 l[k].state.length d1) ∧ w.cell? ⟨b, o + k * 7 + 6, none⟩ = some (.slice s2 l[k].runs.length d2) ∧ BAt w (.slice s1 l[k].state.length d1) l[k].state ∧ RunsAt w (.slice s2 l[k].runs.length d2) l[k].runs

theorem zeroAtD (w : World) : VerAt w (.agg (verC 0 0 0 0 0 (.slice none 0 0) (.slice none 0 0))) zeroVer :=
  ⟨none, 0, none, 0, rfl, ⟨none, 0, rfl, by decide, by decide, fun _ => ⟨rfl, rfl⟩, fun j hj => absurd hj (by simp [zeroVer])⟩, ⟨none, 0, rfl, by decide, by decide, fun k hk => absurd hk (by simp [zeroVer])⟩⟩

/-- The version that stands, as a box holds it. -/
def nowOf (m : Option VerA) : VerA := m.getD zeroVer

theorem LoadRes.val {w' : World} {base : Nat} {e : Ending} {m : Option VerA} (h : LoadRes w' base e (m, 0)) : ∃ v, e = .returned (.tuple #[v, .bool m.isSome, .int .i64 0]) ∧ VerAt w' v (nowOf m) := by
  cases m with
  | none => exact ⟨_, h, zeroAtD w'⟩
  | some x =>
    obtain ⟨v, h1, h2⟩ := h
    exact ⟨v, h1, h2.at⟩

/-- Between two rounds of ManifestStroke. -/
structure StS (w W : World) (p pn n : Nat) (s : DS) (m : Option VerA) (a1 : Option Addr) (c1 : Nat) (a2 : Option Addr) (c2 : Nat) : Prop where
  db : DB w W p s [(pn, .cells #[.int .i64 (nowOf m).gen, .int .i64 (nowOf m).flushed, .int .i64 (nowOf m).next, .int .i64 (nowOf m).low, .int .i64 (nowOf m).clock, .slice a1 (nowOf m).state.length c1, .slice a2 (nowOf m).runs.length c2] 25 (0, 0))]
  st : Stood s.abs m
  arm : s.armed = 0
  gen : (m.map (·.gen)).getD 0 ≤ n
  gen0 : 0 ≤ (m.map (·.gen)).getD 0
  now : VerAt w (.agg #[.int .i64 (nowOf m).gen, .int .i64 (nowOf m).flushed, .int .i64 (nowOf m).next, .int .i64 (nowOf m).low, .int .i64 (nowOf m).clock, .slice a1 (nowOf m).state.length c1, .slice a2 (nowOf m).runs.length c2]) (nowOf m)

theorem nowOf_gen (m : Option VerA) : (nowOf m).gen = (m.map (·.gen)).getD 0 := by cases m <;> rfl
theorem Stood.loaded {a : DiskA} {m : Option VerA} (h : Stood a m) : Stood (loadP a xB).2 m ∧ (loadP a xB).2.armed = a.armed := by
  obtain ⟨-, h1, h2, h3, h4⟩ := h.load
  obtain ⟨t, ht, htl⟩ := h.files
  exact ⟨⟨h2, h3.trans h.cap, h.good, t, by rw [h1]; exact ht, htl⟩, h4⟩
theorem Stood.armed {a : DiskA} {m : Option VerA} (h : Stood a m) (n : Int) : Stood { a with armed := n } m := ⟨h.down, h.cap, h.good, h.files⟩
/-- What a Swap leaves of the manifest: R is its answer. -/
def Left (a : DiskA) (m : Option VerA) (R : Int) : Prop :=
  (R = 0 ∨ R = 3) ∧ a.down = decide (R = 3) ∧ a.cap = 1048576 ∧ GoodM m ∧ ∃ l, a.files = mL m ++ l ∧ (l = [] ∨ ∃ d k, l = [⟨xT, d, k⟩] ∧ k ≤ d.length ∧ d.length ≤ 400000)
theorem Stood.left {a : DiskA} {m : Option VerA} (h : Stood a m) {x : VerA} (hx : okA x = true) (hc : ∀ r ∈ x.runs, r.count ≤ 9223372036854775807) (hg : x.gen = (m.map (·.gen)).getD 0 + 1) {n : Int} (hn : 0 ≤ n) :
    Left (swapP { a with armed := n } xB x).2 (if (swapP { a with armed := n } xB x).1 = 0 then some x else m) (swapP { a with armed := n } xB x).1 ∧ (n = 0 → (swapP { a with armed := n } xB x).1 = 0) := by
  rcases h.swap hx hc hg n hn with ⟨h1, h2, h3, h4⟩ | ⟨h0, h1, h2, h3, l, h4, h5⟩
  · refine ⟨⟨.inl h1, by rw [h2, h1]; rfl, h3, ?_, [], by rw [h4, if_pos h1, List.append_nil], .inl rfl⟩, fun _ => h1⟩
    rw [if_pos h1]
    intro y hy
    obtain rfl : x = y := by simpa using hy
    exact ⟨hx, hc⟩
  · refine ⟨⟨.inr h1, by rw [h2, h1]; rfl, h3, ?_, l, by rw [h4, if_neg (by rw [h1]; decide)], h5⟩, fun e => absurd e h0⟩
    rw [if_neg (by rw [h1]; decide)]
    exact h.good
theorem Left.crash {a : DiskA} {m : Option VerA} {R : Int} (h : Left a m R) (cuts : List Int) : Stood { a with files := (crashF cuts a.files).1, down := false, armed := 0 } m := by
  obtain ⟨-, -, h1, h2, l, h3, h4⟩ := h
  exact crash_form h1 h2 h3 h4
theorem IntsAt.one {W : World} {b : Nat} {n : Int} (h : W.heap[b]? = some (.cells #[.int .i64 n] 3 (0, 0))) : IntsAt W (.slice (some ⟨b, 0, none⟩) 1 1) [n] := by
  refine ⟨some ⟨b, 0, none⟩, 1, rfl, by simp, fun k hk => ⟨_, rfl, rfl, fun j hj => ?_⟩⟩
  have hj0 : j = 0 := by simpa using hj
  subst hj0
  show W.cell? ⟨b, 0 + 0, none⟩ = _
  rw [cell_of_row W b (0 + 0) _ _ _ h]
  rfl
theorem IntsAt.nil (W : World) : IntsAt W (.slice none 0 0) [] := ⟨none, 0, rfl, by decide, fun k hk => absurd hk (by simp)⟩
theorem Stood.runs {a : DiskA} {m : Option VerA} (h : Stood a m) : (nowOf m).runs.length ≤ 64 := by
  cases m with
  | none => simp [nowOf, zeroVer]
  | some x =>
    have h1 := okA_head (h.good x rfl).1
    show x.runs.length ≤ 64
    simp [headA, ins] at h1
    omega

end Go.Proofs.YtgaidmohdhaonaaGreatDoor
