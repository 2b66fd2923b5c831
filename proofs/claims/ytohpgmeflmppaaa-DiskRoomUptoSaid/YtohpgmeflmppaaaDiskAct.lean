/-
  Package disk, walked: act, and the step that it defers.
-/
import Derived.Test.YtohpgmeflmppaaaDiskN
import Derived.Defers
import Derived.RegionTactic
import Derived.ChangeAlike
namespace Go.Proofs.Ytohpgmeflmppaaa
set_option linter.unusedVariables false
set_option linter.unusedSimpArgs false
set_option linter.unnecessarySimpa false
set_option linter.unusedSectionVars false
open Go Go.RowKit

theorem run_eql_ptr_some {P : Program} {t e : TypeId} {q : TypeInfo} (ht : P.underlying t = some (.pointer e)) (hte : P.info? e = some q) (hsz : q.size ≠ 0) (b i j : Nat) (w : World) :
    (binOp .eql t (.pointer (some ⟨b, i, none⟩)) (.pointer (some ⟨b, j, none⟩))).run P w = .ok (.bool (decide (i = j))) w := by
  have ha : ((⟨b, i, none⟩ : Addr) == ⟨b, j, none⟩) = decide (i = j) := by
    by_cases h : i = j
    · subst h; simp
    · have : (⟨b, i, none⟩ : Addr) ≠ ⟨b, j, none⟩ := fun e => by simp only [Addr.mk.injEq] at e; exact h e.2.1
      simp [h]
  have hs : (sameAddr ⟨b, i, none⟩ ⟨b, j, none⟩).run P w = .ok (decide (i = j)) w := by simp [sameAddr, ha]
  have h : ∀ d : Nat, (Op.equalIn (d + 1) t (.pointer (some ⟨b, i, none⟩)) (.pointer (some ⟨b, j, none⟩))).run P w = .ok (decide (i = j)) w := fun d => by
    simp [Op.equalIn, run_underlying ht, sizeOf, typeInfo, hte, hsz, hs]
  simp only [binOp]
  simp [Op.equal, Op.maxDepth, h 9999]

theorem run_eql_ptr_none {P : Program} {t e : TypeId} (ht : P.underlying t = some (.pointer e)) (b j : Nat) (w : World) :
    (binOp .eql t (.pointer none) (.pointer (some ⟨b, j, none⟩))).run P w = .ok (.bool false) w := by
  have h : ∀ d : Nat, (Op.equalIn (d + 1) t (.pointer none) (.pointer (some ⟨b, j, none⟩))).run P w = .ok false w := fun d => by
    simp [Op.equalIn, run_underlying ht]
  simp only [binOp]
  simp [Op.equal, Op.maxDepth, h 9999]

theorem Try.infoInt : (Try.prog.info? 3).map (fun i => i.size) = some 1 := by kernel_rfl
theorem Try.eqlInt (b i j : Nat) (w : World) : (binOp .eql 102 (.pointer (some ⟨b, i, none⟩)) (.pointer (some ⟨b, j, none⟩))).run Try.prog w = .ok (.bool (decide (i = j))) w := by
  obtain ⟨q, hq, hs⟩ := Option.map_eq_some_iff.1 Try.infoInt
  exact run_eql_ptr_some Try.underlying102 hq (by omega) b i j w

/-- The deferred step: nothing was done. -/
theorem act1_no {w : World} {bx bd bc : Nat} (u : FrameMode) (hx : w.cell? ⟨bx, 0, none⟩ = some (.bool false)) :
    CallsD Try.prog 71 #[.pointer (some ⟨bx, 0, none⟩), .pointer (some ⟨bd, 0, none⟩), .pointer (some ⟨bc, 0, none⟩)] u w fun e u' w' => u' = u ∧ e = .returned (.tuple #[]) ∧ w' = w := by
  go_enter_d Try.func71, Try.ntmps71
  go_wp2
  go_end0
  exact ⟨rfl, rfl⟩

/-- It was done, and is counted. -/
theorem act1_one {w : World} {bx bd bc p : Nat} {n : Int} (u : FrameMode) (hx : w.cell? ⟨bx, 0, none⟩ = some (.bool true)) (hd : w.cell? ⟨bd, 0, none⟩ = some (.pointer (some ⟨p, 0, none⟩)))
    (hc : w.cell? ⟨bc, 0, none⟩ = some (.pointer none)) (c5 : w.cell? ⟨p, 5, none⟩ = some (.int .i64 n)) (f5 : w.frozen? ⟨p, 5, none⟩ = false) (h1 : bc ≠ p) :
    CallsD Try.prog 71 #[.pointer (some ⟨bx, 0, none⟩), .pointer (some ⟨bd, 0, none⟩), .pointer (some ⟨bc, 0, none⟩)] u w fun e u' w' => u' = u ∧ e = .returned (.tuple #[]) ∧ w' = w.setCell ⟨p, 5, none⟩ (.int .i64 (wrap64 (n + 1))) := by
  go_enter_d Try.func71, Try.ntmps71
  go_wp2
  go_end0
  exact ⟨rfl, rfl⟩

theorem act1_two {w : World} {bx bd bc p j : Nat} {n k : Int} (u : FrameMode) (hx : w.cell? ⟨bx, 0, none⟩ = some (.bool true)) (hd : w.cell? ⟨bd, 0, none⟩ = some (.pointer (some ⟨p, 0, none⟩)))
    (hc : w.cell? ⟨bc, 0, none⟩ = some (.pointer (some ⟨p, j, none⟩))) (c5 : w.cell? ⟨p, 5, none⟩ = some (.int .i64 n)) (f5 : w.frozen? ⟨p, 5, none⟩ = false) (h1 : bc ≠ p)
    (cj : w.cell? ⟨p, j, none⟩ = some (.int .i64 k)) (fj : w.frozen? ⟨p, j, none⟩ = false) (hj : 5 ≠ j) :
    CallsD Try.prog 71 #[.pointer (some ⟨bx, 0, none⟩), .pointer (some ⟨bd, 0, none⟩), .pointer (some ⟨bc, 0, none⟩)] u w fun e u' w' => u' = u ∧ e = .returned (.tuple #[]) ∧
      w' = (w.setCell ⟨p, 5, none⟩ (.int .i64 (wrap64 (n + 1)))).setCell ⟨p, j, none⟩ (.int .i64 (wrap64 (k + 1))) := by
  go_enter_d Try.func71, Try.ntmps71
  go_wp2
  go_end0
  exact ⟨rfl, rfl⟩

def bump (c : Cnt) : Option Nat → Cnt
  | none => { c with acts := wrap64 (c.acts + 1) }
  | some 6 => { c with acts := wrap64 (c.acts + 1), appends := wrap64 (c.appends + 1) }
  | some 7 => { c with acts := wrap64 (c.acts + 1), syncs := wrap64 (c.syncs + 1) }
  | some 8 => { c with acts := wrap64 (c.acts + 1), renames := wrap64 (c.renames + 1) }
  | some 9 => { c with acts := wrap64 (c.acts + 1), deletes := wrap64 (c.deletes + 1) }
  | some _ => c

/-- An act that nothing refuses: its answer, and the disk behind it; F: the files, were it done. -/
def actA (a : DiskA) (co : Option Nat) (F : List FileA) : Int × DiskA :=
  if a.armed = 0 then (0, { a with files := F, cnt := bump a.cnt co })
  else if a.armed = 1 then (if co = some 6 then (3, { a with files := F, cnt := bump a.cnt co, armed := 0, down := true }) else (3, { a with armed := 0, down := true }))
  else (0, { a with files := F, cnt := bump a.cnt co, armed := a.armed - 1 })

def cntPtr (p : Nat) : Option Nat → Option Addr
  | none => none
  | some j => some ⟨p, j, none⟩

/-- What the act itself does: from a disk s1 to one whose files are F, all else alike. -/
def Does (G : Nat) (caps : Array Value) (w : World) (s : DS) (F : List FileA) : Prop :=
  ∀ W s1, s1.In W → Upd (fun k => k = s.p) w W → s1.p = s.p → s1.m = s.m → s1.recs = s.recs → s1.cap = s.cap → s1.cnt = s.cnt →
    Calls Try.prog G caps W fun e W' => e = .returned (.tuple #[]) ∧ ∃ s2, Step W W' s1 s2 ∧ s2.cap = s1.cap ∧ s2.down = s1.down ∧ s2.armed = s1.armed ∧ s2.cnt = s1.cnt ∧ s2.recs.map FRec.abs = F

def cntAt (c : Cnt) : Nat → Int
  | 6 => c.appends
  | 7 => c.syncs
  | 8 => c.renames
  | 9 => c.deletes
  | _ => 0

def DS.bumped (s : DS) (co : Option Nat) : DS := { s with cnt := bump s.cnt co }

/-- The deferred step, whatever it counts. -/
theorem act1_yes {w : World} {s : DS} (hs : s.In w) {bx bd bc : Nat} (u : FrameMode) {co : Option Nat} (hco : co = none ∨ co = some 6 ∨ co = some 7 ∨ co = some 8 ∨ co = some 9)
    (hx : w.cell? ⟨bx, 0, none⟩ = some (.bool true)) (hd : w.cell? ⟨bd, 0, none⟩ = some (.pointer (some ⟨s.p, 0, none⟩))) (hc : w.cell? ⟨bc, 0, none⟩ = some (.pointer (cntPtr s.p co))) (h1 : bc ≠ s.p) :
    CallsD Try.prog 71 #[.pointer (some ⟨bx, 0, none⟩), .pointer (some ⟨bd, 0, none⟩), .pointer (some ⟨bc, 0, none⟩)] u w fun e u' w' => u' = u ∧ e = .returned (.tuple #[]) ∧ Step w w' s (s.bumped co) := by
  have c5 := hs.cell 5
  have f5 := hs.free 5
  have one : Step w (w.setCell ⟨s.p, 5, none⟩ (.int .i64 (wrap64 (s.cnt.acts + 1)))) s (s.bumped none) :=
    hs.top_turned (Upd.cell_only _ _ _ _) rfl rfl rfl rfl (heap_setCell_at _ _ _ _ _ _ hs.top) hs.armed
  have two : ∀ (j : Nat), j = 6 ∨ j = 7 ∨ j = 8 ∨ j = 9 → Step w ((w.setCell ⟨s.p, 5, none⟩ (.int .i64 (wrap64 (s.cnt.acts + 1)))).setCell ⟨s.p, j, none⟩ (.int .i64 (wrap64 (cntAt s.cnt j + 1)))) s (s.bumped (some j)) := by
    intro j hj
    refine hs.top_turned ((Upd.cell_only _ _ _ _).trans (Upd.cell_only _ _ _ _) (fun k _ h => h)) rfl rfl rfl rfl ?_ hs.armed
    rw [heap_setCell_at _ _ _ _ _ _ (heap_setCell_at _ _ _ _ _ _ hs.top)]
    rcases hj with rfl | rfl | rfl | rfl <;> rfl
  rcases hco with rfl | rfl | rfl | rfl | rfl
  · exact (act1_one u hx hd hc c5 f5 h1).mono fun e u' w' ⟨a, b, c⟩ => ⟨a, b, c ▸ one⟩
  · exact (act1_two u hx hd hc c5 f5 h1 (hs.cell 6) (hs.free 6) (by omega)).mono fun e u' w' ⟨a, b, c⟩ => ⟨a, b, c ▸ two 6 (by simp)⟩
  · exact (act1_two u hx hd hc c5 f5 h1 (hs.cell 7) (hs.free 7) (by omega)).mono fun e u' w' ⟨a, b, c⟩ => ⟨a, b, c ▸ two 7 (by simp)⟩
  · exact (act1_two u hx hd hc c5 f5 h1 (hs.cell 8) (hs.free 8) (by omega)).mono fun e u' w' ⟨a, b, c⟩ => ⟨a, b, c ▸ two 8 (by simp)⟩
  · exact (act1_two u hx hd hc c5 f5 h1 (hs.cell 9) (hs.free 9) (by omega)).mono fun e u' w' ⟨a, b, c⟩ => ⟨a, b, c ▸ two 9 (by simp)⟩

/-- A cell of a block that is none of the disk's stands behind a step. -/
theorem Step.other {w w' : World} {s s2 : DS} (h : Step w w' s s2) {b i : Nat} (hb : b ∉ s.blocks) (hlt : b < w.heap.size) : w'.cell? ⟨b, i, none⟩ = w.cell? ⟨b, i, none⟩ :=
  World.cell?_of_block (h.upd.block b hlt hb)

set_option maxRecDepth 100000 in
set_option maxHeartbeats 1000000 in
theorem act_plain {w : World} {s : DS} (hs : s.In w) {G : Nat} {caps : Array Value} {co : Option Nat} {F : List FileA} (hG : ∀ W, (callFunc G caps).run Try.prog W = .ok (.enter G caps) W) (hdo : Does G caps w s F) (h0 : s.armed = 0)
    (hco : co = none ∨ co = some 6 ∨ co = some 7 ∨ co = some 8 ∨ co = some 9) :
    Calls Try.prog 49 #[.pointer (some ⟨s.p, 0, none⟩), .pointer (cntPtr s.p co), .func (.func G) #[] caps] w fun e w' =>
      e = .returned (.int .i64 (actA s.abs co F).1) ∧ ∃ s2, Step w w' s s2 ∧ s2.abs = (actA s.abs co F).2 := by
  have c4 := hs.c_armed
  have hp := hs.plt
  have hp1 : s.p < w.heap.size + 1 := by omega
  have hp2 : s.p < w.heap.size + 1 + 1 := by omega
  rw [h0] at c4
  have HS := hid hs; have HDO := hid hdo; have H0 := hid h0
  clear hs hdo h0
  generalize hcp : cntPtr s.p co = cp
  have HC := hid hcp; clear hcp
  go_enter_defers Try.func49, Try.ntmps49
  go_wp2_with fail
  have hu3 : Upd (fun _ => False) w (((w.alloc (.cells #[.pointer (some ⟨s.p, 0, none⟩)] 23)).alloc (.cells #[.pointer cp] 102)).alloc (.cells #[.bool true] 4)) := (((Upd.refl _ _).alloc _).alloc _).alloc _
  have hin := HS.out.upd hu3 (fun _ _ h => h)
  have hnb : ∀ k, w.heap.size ≤ k → k ∉ s.blocks := fun k hk hm => by have := HS.out.lt k hm; omega
  have HIN := hid hin; have HU3 := hid hu3; have HNB := hid hnb
  clear hin hu3 hnb
  refine (HDO.out _ s HIN.out (HU3.out.mono (fun _ _ h => h.elim)) rfl rfl rfl rfl rfl).mono ?_
  rintro e W' ⟨rfl, s2, hst, e1, e2, e3, e4, e5⟩
  have hx := (hst.other (i := 0) (HNB.out (w.heap.size + 1 + 1) (by omega)) (by simp)).trans (by simp [go_sem] : _ = some (.bool true))
  have hd := (hst.other (i := 0) (HNB.out w.heap.size (by omega)) (by simp; omega)).trans (by simp [go_sem] : _ = some (.pointer (some ⟨s.p, 0, none⟩)))
  have hc := (hst.other (i := 0) (HNB.out (w.heap.size + 1) (by omega)) (by simp)).trans (by simp [go_sem] : _ = some (.pointer cp))
  have H1 := hid hst; have H2 := hid e1; have H3 := hid e2; have H4 := hid e3; have H5 := hid e4; have H6 := hid e5
  clear hst e1 e2 e3 e4 e5
  go_wp2
  refine leaves_cons (f := 71) (args := #[.pointer (some ⟨w.heap.size + 1 + 1, 0, none⟩), .pointer (some ⟨w.heap.size, 0, none⟩), .pointer (some ⟨w.heap.size + 1, 0, none⟩)]) (by simp) (by simp [go_sem]) ?_
  refine (act1_yes H1.out.ins .returning hco hx (by rw [hd, H1.out.p]) (by rw [hc, H1.out.p, HC.out]) (by rw [H1.out.p]; omega)).mono ?_
  rintro e u' w'' ⟨rfl, rfl, hst3⟩
  refine ⟨_, results_tmp rfl _ _ _, ?_⟩
  refine ⟨by rw [show (actA s.abs co F).1 = 0 from by simp [actA, DS.abs, H0.out]]; rfl, s2.bumped co, ((Step.of_upd HS.out HU3.out).trans H1.out).trans hst3, ?_⟩
  simp [actA, DS.abs, DS.bumped, H0.out, H2.out, H3.out, H4.out, H5.out, H6.out]

set_option maxRecDepth 100000 in
set_option maxHeartbeats 1000000 in
theorem act_later {w : World} {s : DS} (hs : s.In w) {G : Nat} {caps : Array Value} {co : Option Nat} {F : List FileA} (hG : ∀ W, (callFunc G caps).run Try.prog W = .ok (.enter G caps) W) (hdo : Does G caps w s F) (h0 : 1 < s.armed)
    (hco : co = none ∨ co = some 6 ∨ co = some 7 ∨ co = some 8 ∨ co = some 9) :
    Calls Try.prog 49 #[.pointer (some ⟨s.p, 0, none⟩), .pointer (cntPtr s.p co), .func (.func G) #[] caps] w fun e w' =>
      e = .returned (.int .i64 (actA s.abs co F).1) ∧ ∃ s2, Step w w' s s2 ∧ s2.abs = (actA s.abs co F).2 := by
  have c4 := hs.c_armed
  have f4 := hs.free 4
  have hp := hs.plt
  have hp1 : s.p < w.heap.size + 1 := by omega
  have hp2 : s.p < w.heap.size + 1 + 1 := by omega
  have ha := hs.armed
  obtain ⟨ha1, ha2⟩ := ha
  have hne : ¬ (s.armed = 0) := by omega
  have hne1 : ¬ (s.armed = 1) := by omega
  have HS := hid hs; have HDO := hid hdo
  have N0 := hid hne; have N1 := hid hne1
  clear hs hdo hne hne1
  generalize hcp : cntPtr s.p co = cp
  have HC := hid hcp; clear hcp
  generalize har : s.armed = ar at *
  have HA := hid har; clear har
  have hb1 : (ar - 1 == 0) = false := by simp; omega
  go_enter_defers Try.func49, Try.ntmps49
  go_wp2_with fail
  have hst1 : Step w (w.setCell ⟨s.p, 4, none⟩ (.int .i64 (ar - 1))) s { s with armed := ar - 1 } :=
    HS.out.top_turned (Upd.cell_only _ _ _ _) rfl rfl rfl rfl (heap_setCell_at _ _ _ _ _ _ HS.out.top) ⟨by show 0 ≤ ar - 1; omega, by show ar - 1 ≤ _; omega⟩
  have hu3 : Upd (fun _ => False) (w.setCell ⟨s.p, 4, none⟩ (.int .i64 (ar - 1))) ((((w.setCell ⟨s.p, 4, none⟩ (.int .i64 (ar - 1))).alloc (.cells #[.pointer (some ⟨s.p, 0, none⟩)] 23)).alloc (.cells #[.pointer cp] 102)).alloc (.cells #[.bool true] 4)) := (((Upd.refl _ _).alloc _).alloc _).alloc _
  have hin := hst1.ins.upd hu3 (fun _ _ h => h)
  have hnb : ∀ k, w.heap.size ≤ k → k ∉ s.blocks := fun k hk hm => by have := HS.out.lt k hm; omega
  have HIN := hid hin; have HU3 := hid hu3; have HNB := hid hnb; have HS1 := hid hst1
  clear hin hu3 hnb hst1
  refine (HDO.out _ { s with armed := ar - 1 } HIN.out ((Upd.cell_only _ _ _ _).trans HU3.out (fun _ _ h => h.elim)) rfl rfl rfl rfl rfl).mono ?_
  rintro e W' ⟨rfl, s2, hst, e1, e2, e3, e4, e5⟩
  have hx := (hst.other (i := 0) (HNB.out (w.heap.size + 1 + 1) (by omega)) (by simp)).trans (by simp [go_sem] : _ = some (.bool true))
  have hd := (hst.other (i := 0) (HNB.out w.heap.size (by omega)) (by simp; omega)).trans (by simp [go_sem] : _ = some (.pointer (some ⟨s.p, 0, none⟩)))
  have hc := (hst.other (i := 0) (HNB.out (w.heap.size + 1) (by omega)) (by simp)).trans (by simp [go_sem] : _ = some (.pointer cp))
  have hp' := hst.p
  have H1 := hid hst; have H2 := hid e1; have H3 := hid e2; have H4 := hid e3; have H5 := hid e4; have H6 := hid e5; have H7 := hid hp'
  clear hst e1 e2 e3 e4 e5 hp'
  go_wp2
  refine leaves_cons (f := 71) (args := #[.pointer (some ⟨w.heap.size + 1 + 1, 0, none⟩), .pointer (some ⟨w.heap.size, 0, none⟩), .pointer (some ⟨w.heap.size + 1, 0, none⟩)]) (by simp) (by simp [go_sem]) ?_
  refine (act1_yes H1.out.ins .returning hco hx (by rw [hd, H7.out]) (by rw [hc, H7.out, HC.out]) (by rw [H7.out]; show w.heap.size + 1 ≠ s.p; omega)).mono ?_
  rintro e u' w'' ⟨rfl, rfl, hst3⟩
  refine ⟨_, results_tmp rfl _ _ _, ?_⟩
  refine ⟨by rw [show (actA s.abs co F).1 = 0 from by simp [actA, DS.abs, HA.out, N0.out, N1.out]]; rfl, s2.bumped co, ((HS1.out.trans (Step.of_upd HS1.out.ins HU3.out)).trans H1.out).trans hst3, ?_⟩
  simp [actA, DS.abs, DS.bumped, HA.out, N0.out, N1.out, H2.out, H3.out, H4.out, H5.out, H6.out]

set_option maxRecDepth 100000 in
set_option maxHeartbeats 1000000 in
/-- The disk goes down at this act, which is an Append. -/
theorem act_last {w : World} {s : DS} (hs : s.In w) {G : Nat} {caps : Array Value} {F : List FileA} (hG : ∀ W, (callFunc G caps).run Try.prog W = .ok (.enter G caps) W) (hdo : Does G caps w s F) (h0 : s.armed = 1) :
    Calls Try.prog 49 #[.pointer (some ⟨s.p, 0, none⟩), .pointer (some ⟨s.p, 6, none⟩), .func (.func G) #[] caps] w fun e w' =>
      e = .returned (.int .i64 (actA s.abs (some 6) F).1) ∧ ∃ s2, Step w w' s s2 ∧ s2.abs = (actA s.abs (some 6) F).2 := by
  have c4 := hs.c_armed
  have c3 := hs.c_down
  have f4 := hs.free 4
  have f3 := hs.free 3
  have hp := hs.plt
  have hp1 : s.p < w.heap.size + 1 := by omega
  have hp2 : s.p < w.heap.size + 1 + 1 := by omega
  rw [h0] at c4
  have HS := hid hs; have HDO := hid hdo; have H0 := hid h0
  clear hs hdo h0
  go_enter_defers Try.func49, Try.ntmps49
  go_wp2_with fail
  have heq := fun W => Try.eqlInt s.p 6 6 W
  go_region
  go_wp2
  have hst1 : Step w ((w.setCell ⟨s.p, 4, none⟩ (.int .i64 0)).setCell ⟨s.p, 3, none⟩ (.bool true)) s { s with armed := 0, down := true } := by
    refine HS.out.top_turned ((Upd.cell_only _ _ _ _).trans (Upd.cell_only _ _ _ _) (fun k _ h => h)) rfl rfl rfl rfl ?_ ⟨by simp, by simp⟩
    rw [heap_setCell_at _ _ _ _ _ _ (heap_setCell_at _ _ _ _ _ _ HS.out.top)]
    rfl
  have hu3 : Upd (fun _ => False) ((w.setCell ⟨s.p, 4, none⟩ (.int .i64 0)).setCell ⟨s.p, 3, none⟩ (.bool true)) (((((w.setCell ⟨s.p, 4, none⟩ (.int .i64 0)).setCell ⟨s.p, 3, none⟩ (.bool true)).alloc (.cells #[.pointer (some ⟨s.p, 0, none⟩)] 23)).alloc (.cells #[.pointer (some ⟨s.p, 6, none⟩)] 102)).alloc (.cells #[.bool true] 4)).drew := ((((Upd.refl _ _).alloc _).alloc _).alloc _).drew
  have hin := hst1.ins.upd hu3 (fun _ _ h => h)
  have hnb : ∀ k, w.heap.size ≤ k → k ∉ s.blocks := fun k hk hm => by have := HS.out.lt k hm; omega
  have HIN := hid hin; have HU3 := hid hu3; have HNB := hid hnb; have HS1 := hid hst1
  clear hin hu3 hnb hst1
  refine (HDO.out _ { s with armed := 0, down := true } HIN.out (((Upd.cell_only _ _ _ _).trans (Upd.cell_only _ _ _ _) (fun k _ h => h)).trans HU3.out (fun _ _ h => h.elim)) rfl rfl rfl rfl rfl).mono ?_
  rintro e W' ⟨rfl, s2, hst, e1, e2, e3, e4, e5⟩
  have hx := (hst.other (i := 0) (HNB.out (w.heap.size + 1 + 1) (by omega)) (by simp)).trans (by simp [go_sem] : _ = some (.bool true))
  have hd := (hst.other (i := 0) (HNB.out w.heap.size (by omega)) (by simp; omega)).trans (by simp [go_sem] : _ = some (.pointer (some ⟨s.p, 0, none⟩)))
  have hc := (hst.other (i := 0) (HNB.out (w.heap.size + 1) (by omega)) (by simp)).trans (by simp [go_sem] : _ = some (.pointer (some ⟨s.p, 6, none⟩)))
  have hp' := hst.p
  have H1 := hid hst; have H2 := hid e1; have H3 := hid e2; have H4 := hid e3; have H5 := hid e4; have H6 := hid e5; have H7 := hid hp'
  clear hst e1 e2 e3 e4 e5 hp'
  go_wp2
  refine leaves_cons (f := 71) (args := #[.pointer (some ⟨w.heap.size + 1 + 1, 0, none⟩), .pointer (some ⟨w.heap.size, 0, none⟩), .pointer (some ⟨w.heap.size + 1, 0, none⟩)]) (by simp) (by simp [go_sem]) ?_
  refine (act1_yes (co := some 6) H1.out.ins .returning (by simp) hx (by rw [hd, H7.out]) (by rw [hc, H7.out]; rfl) (by rw [H7.out]; show w.heap.size + 1 ≠ s.p; omega)).mono ?_
  rintro e u' w'' ⟨rfl, rfl, hst3⟩
  refine ⟨_, results_tmp rfl _ _ _, ?_⟩
  refine ⟨by rw [show (actA s.abs (some 6) F).1 = 3 from by simp [actA, DS.abs, H0.out]]; rfl, s2.bumped (some 6), ((HS1.out.trans (Step.of_upd HS1.out.ins HU3.out)).trans H1.out).trans hst3, ?_⟩
  simp [actA, DS.abs, DS.bumped, H0.out, H2.out, H3.out, H4.out, H5.out, H6.out]

set_option maxRecDepth 100000 in
set_option maxHeartbeats 1000000 in
/-- .. which is none. -/
theorem act_stop {w : World} {s : DS} (hs : s.In w) {G : Nat} {caps : Array Value} {co : Option Nat} {F : List FileA} (h0 : s.armed = 1) (hco : co = none ∨ co = some 7 ∨ co = some 8 ∨ co = some 9) :
    Calls Try.prog 49 #[.pointer (some ⟨s.p, 0, none⟩), .pointer (cntPtr s.p co), .func (.func G) #[] caps] w fun e w' =>
      e = .returned (.int .i64 (actA s.abs co F).1) ∧ ∃ s2, Step w w' s s2 ∧ s2.abs = (actA s.abs co F).2 := by
  have heq : ∀ W, (binOp .eql 102 (.pointer (cntPtr s.p co)) (.pointer (some ⟨s.p, 6, none⟩))).run Try.prog W = .ok (.bool false) W := by
    intro W
    rcases hco with rfl | rfl | rfl | rfl
    · exact run_eql_ptr_none Try.underlying102 _ _ _
    · exact (Try.eqlInt s.p 7 6 W).trans rfl
    · exact (Try.eqlInt s.p 8 6 W).trans rfl
    · exact (Try.eqlInt s.p 9 6 W).trans rfl
  have hn6 : ¬ co = some 6 := by rcases hco with rfl | rfl | rfl | rfl <;> simp
  have HN6 := hid hn6
  clear hco hn6
  have c4 := hs.c_armed
  have c3 := hs.c_down
  have f4 := hs.free 4
  have f3 := hs.free 3
  have hp := hs.plt
  have hp1 : s.p < w.heap.size + 1 := by omega
  have hp2 : s.p < w.heap.size + 1 + 1 := by omega
  rw [h0] at c4
  have HS := hid hs; have H0 := hid h0
  clear hs h0
  generalize cntPtr s.p co = cp at *
  go_enter_defers Try.func49, Try.ntmps49
  go_wp2_with fail
  go_region
  have hst1 : Step w ((w.setCell ⟨s.p, 4, none⟩ (.int .i64 0)).setCell ⟨s.p, 3, none⟩ (.bool true)) s { s with armed := 0, down := true } := by
    refine HS.out.top_turned ((Upd.cell_only _ _ _ _).trans (Upd.cell_only _ _ _ _) (fun k _ h => h)) rfl rfl rfl rfl ?_ ⟨by simp, by simp⟩
    rw [heap_setCell_at _ _ _ _ _ _ (heap_setCell_at _ _ _ _ _ _ HS.out.top)]
    rfl
  have hu3 : Upd (fun _ => False) ((w.setCell ⟨s.p, 4, none⟩ (.int .i64 0)).setCell ⟨s.p, 3, none⟩ (.bool true)) (((((w.setCell ⟨s.p, 4, none⟩ (.int .i64 0)).setCell ⟨s.p, 3, none⟩ (.bool true)).alloc (.cells #[.pointer (some ⟨s.p, 0, none⟩)] 23)).alloc (.cells #[.pointer cp] 102)).alloc (.cells #[.bool false] 4)).drew := ((((Upd.refl _ _).alloc _).alloc _).alloc _).drew
  have HS1 := hid hst1; have HU3 := hid hu3
  clear hst1 hu3
  go_wp2
  refine leaves_cons (f := 71) (args := #[.pointer (some ⟨w.heap.size + 1 + 1, 0, none⟩), .pointer (some ⟨w.heap.size, 0, none⟩), .pointer (some ⟨w.heap.size + 1, 0, none⟩)]) (by simp) (by simp [go_sem]) ?_
  refine (act1_no .returning (by simp [go_sem])).mono ?_
  rintro e u' w'' ⟨rfl, rfl, rfl⟩
  refine ⟨_, results_tmp rfl _ _ _, ?_⟩
  refine ⟨by rw [show (actA s.abs co F).1 = 3 from by simp [actA, DS.abs, H0.out, HN6.out]]; rfl, { s with armed := 0, down := true }, HS1.out.trans (Step.of_upd HS1.out.ins HU3.out), ?_⟩
  simp [actA, DS.abs, H0.out, HN6.out]

/-- Every act. -/
theorem act_any {w : World} {s : DS} (hs : s.In w) {G : Nat} {caps : Array Value} {co : Option Nat} {F : List FileA} (hG : ∀ W, (callFunc G caps).run Try.prog W = .ok (.enter G caps) W) (hdo : Does G caps w s F)
    (hco : co = none ∨ co = some 6 ∨ co = some 7 ∨ co = some 8 ∨ co = some 9) :
    Calls Try.prog 49 #[.pointer (some ⟨s.p, 0, none⟩), .pointer (cntPtr s.p co), .func (.func G) #[] caps] w fun e w' =>
      e = .returned (.int .i64 (actA s.abs co F).1) ∧ ∃ s2, Step w w' s s2 ∧ s2.abs = (actA s.abs co F).2 := by
  by_cases h0 : s.armed = 0
  · exact act_plain hs hG hdo h0 hco
  by_cases h1 : s.armed = 1
  · rcases hco with rfl | rfl | rfl | rfl | rfl
    · exact act_stop hs h1 (by simp)
    · exact act_last hs hG hdo h1
    · exact act_stop hs h1 (by simp)
    · exact act_stop hs h1 (by simp)
    · exact act_stop hs h1 (by simp)
  · exact act_later hs hG hdo (by have := hs.armed; omega) hco

end Go.Proofs.Ytohpgmeflmppaaa
