/-
  stratalaw10.Room: one place in memory for a version; what its steps leave. No walk stands here.
  stratalaw10.Room: a list of runs made and written, one more desk. No walk stands here.
-/
import Derived.Test.YtgaidmohdhaonaaGreatDoorSL
import Derived.Test.YtgaidmohdhaonaaGreatDoorZC
namespace Go.Proofs.YtgaidmohdhaonaaGreatDoor
set_option linter.unusedVariables false
set_option linter.unusedSimpArgs false
set_option linter.unnecessarySimpa false
set_option linter.unusedSectionVars false
open Go Go.RowKit

/-- What a room may turn: its box, and what lies behind. -/
abbrev OutR (p B : Nat) : Nat → Prop := fun b => b = p ∨ B ≤ b

/-- Bytes, a version, that stand whatever a room does. -/
def BK (p B : Nat) (w : World) (v : Value) (bs : List UInt8) : Prop := ∀ w', Upd (OutR p B) w w' → BAt w' v bs
def RK (p B : Nat) (w : World) (v : Value) (l : List MetaA) : Prop := ∀ w', Upd (OutR p B) w w' → RunsAt w' v l
def VerK (p B : Nat) (w : World) (v : Value) (x : VerA) : Prop := ∀ w', Upd (OutR p B) w w' → VerAt w' v x

section
variable {p B : Nat} {w w' : World} {v : Value}

theorem BK.keep {bs : List UInt8} (h : BK p B w v bs) (hu : Upd (OutR p B) w w') : BK p B w' v bs := fun _ h' => h _ (hu.trans h' (fun _ _ e => e))
theorem RK.keep {l : List MetaA} (h : RK p B w v l) (hu : Upd (OutR p B) w w') : RK p B w' v l := fun _ h' => h _ (hu.trans h' (fun _ _ e => e))
theorem VerK.keep {x : VerA} (h : VerK p B w v x) (hu : Upd (OutR p B) w w') : VerK p B w' v x := fun _ h' => h _ (hu.trans h' (fun _ _ e => e))
theorem BK.at {bs : List UInt8} (h : BK p B w v bs) : BAt w v bs := h w (Upd.refl _ _)
theorem VerK.at {x : VerA} (h : VerK p B w v x) : VerAt w v x := h w (Upd.refl _ _)

/-- Where a cell is read whatever a room does, there is no room. -/
theorem cell_apart {g o : Nat} {u : World → Value} (h : ∀ w', Upd (OutR p B) w w' → w'.cell? ⟨g, o, none⟩ = some (u w')) : ¬ OutR p B g ∧ g < w.heap.size := by
  have hg : g < w.heap.size := by
    have h1 := h w (Upd.refl _ _)
    cases hb : w.heap[g]? with
    | none => simp [World.cell?, hb] at h1
    | some o => exact lt_of_heap hb
  refine ⟨fun hS => ?_, hg⟩
  have h2 := h { w with heap := w.heap.setIfInBounds g (.map #[] 0) } ((Upd.refl _ w).setBlock (fun _ => hS) _)
  simp [World.cell?, hg] at h2

theorem BK.out {bs : List UInt8} (h : BK p B w v bs) : ∀ a l c, v = .slice (some a) l c → 0 < l → ¬ OutR p B a.block ∧ a.block < w.heap.size := by
  intro a l c e h0
  have hl : l = bs.length := by
    obtain ⟨ao, cap, e1, -⟩ := h.at
    rw [e1] at e
    injection e with _ e2 _
    exact e2.symm
  obtain ⟨g, o, s⟩ := a
  have hs : s = none := by
    obtain ⟨ao, cap, e1, -, -, -, h4⟩ := h.at
    obtain ⟨g', o', e5, -⟩ := h4 0 (by omega)
    rw [e1] at e
    injection e with e2 _ _
    rw [e2] at e5
    injection e5 with e5
    injection e5 with _ _ e5
  subst hs
  refine cell_apart (o := o) (u := fun _ => byteV (bs[0]'(by omega))) (fun w' hu => ?_)
  obtain ⟨ao, cap, e1, -, -, -, h4⟩ := h w' hu
  obtain ⟨g', o', e5, -, hc⟩ := h4 0 (by omega)
  rw [e1] at e
  injection e with e2 _ _
  rw [e2] at e5
  injection e5 with e5
  injection e5 with q1 q2 _
  subst q1 q2
  exact hc

theorem VerK.open {x : VerA} (h : VerK p B w v x) : ∃ s1 d1 s2 d2, v = .agg #[.int .i64 x.gen, .int .i64 x.flushed, .int .i64 x.next, .int .i64 x.low, .int .i64 x.clock, .slice s1 x.state.length d1, .slice s2 x.runs.length d2] ∧ BK p B w (.slice s1 x.state.length d1) x.state ∧ RK p B w (.slice s2 x.runs.length d2) x.runs := by
  obtain ⟨s1, d1, s2, d2, rfl, -, -⟩ := h.at
  refine ⟨s1, d1, s2, d2, rfl, fun w' hu => ?_, fun w' hu => ?_⟩
  · obtain ⟨a1, b1, a2, b2, e, h1, -⟩ := h w' hu
    simp only [Value.agg.injEq, Array.mk.injEq, List.cons.injEq, Value.slice.injEq, true_and, and_true] at e
    obtain ⟨⟨rfl, rfl⟩, rfl, rfl⟩ := e
    exact h1
  · obtain ⟨a1, b1, a2, b2, e, -, h1⟩ := h w' hu
    simp only [Value.agg.injEq, Array.mk.injEq, List.cons.injEq, Value.slice.injEq, true_and, and_true] at e
    obtain ⟨⟨rfl, rfl⟩, rfl, rfl⟩ := e
    exact h1

/-- The cells of a run. -/
def RunCells (w : World) (b o : Nat) (m : MetaA) (u1 u2 : Value) : Prop :=
  b < w.heap.size ∧ w.cell? ⟨b, o, none⟩ = some (.int .i64 m.num) ∧ w.cell? ⟨b, o + 1, none⟩ = some (.int .i64 m.count) ∧ w.cell? ⟨b, o + 2, none⟩ = some (.int .i64 m.index) ∧
    w.cell? ⟨b, o + 3, none⟩ = some (.int .i64 m.low) ∧ w.cell? ⟨b, o + 4, none⟩ = some (.int .i64 m.clock) ∧ w.cell? ⟨b, o + 5, none⟩ = some (.int .i64 m.bytes) ∧ w.cell? ⟨b, o + 6, none⟩ = some u1 ∧ w.cell? ⟨b, o + 7, none⟩ = some u2

theorem RK.run {s2 : Option Addr} {d2 : Nat} {l : List MetaA} (h : RK p B w (.slice s2 l.length d2) l) {k : Nat} (hk : k < l.length) :
    ∃ b o f1 c1 f2 c2, s2 = some ⟨b, o, none⟩ ∧ l.length ≤ d2 ∧ (∀ w', Upd (OutR p B) w w' → RunCells w' b (o + k * 8) l[k] (.slice f1 l[k].first.length c1) (.slice f2 l[k].last.length c2)) ∧
      BK p B w (.slice f1 l[k].first.length c1) l[k].first ∧ BK p B w (.slice f2 l[k].last.length c2) l[k].last := by
  obtain ⟨ao, cap, e, hc, -, h3⟩ := h w (Upd.refl _ _)
  injection e with e1 _ e3
  subst e1 e3
  obtain ⟨b, o, f1, c1, f2, c2, rfl, hb, g0, g1, g2, g3, g4, g5, g6, g7, hB1, hB2⟩ := h3 k hk
  have hgen : ∀ w', Upd (OutR p B) w w' → ∃ f1 c1 f2 c2, RunCells w' b (o + k * 8) l[k] (.slice f1 l[k].first.length c1) (.slice f2 l[k].last.length c2) ∧ BAt w' (.slice f1 l[k].first.length c1) l[k].first ∧ BAt w' (.slice f2 l[k].last.length c2) l[k].last := by
    intro w' hu
    obtain ⟨ao', cap', e', -, -, h3'⟩ := h w' hu
    injection e' with e1 _ _
    subst e1
    obtain ⟨b', o', f1, c1, f2, c2, e, hb, g0, g1, g2, g3, g4, g5, g6, g7, hB1, hB2⟩ := h3' k hk
    injection e with e
    injection e with q1 q2 _
    subst q1 q2
    exact ⟨f1, c1, f2, c2, ⟨hb, g0, g1, g2, g3, g4, g5, g6, g7⟩, hB1, hB2⟩
  have hap : ¬ OutR p B b ∧ b < w.heap.size := cell_apart (o := o + k * 8) (u := fun _ => .int .i64 l[k].num) (fun w' hu => by
    obtain ⟨_, _, _, _, h1, -, -⟩ := hgen w' hu
    exact h1.2.1)
  have hsame : ∀ w', Upd (OutR p B) w w' → RunCells w' b (o + k * 8) l[k] (.slice f1 l[k].first.length c1) (.slice f2 l[k].last.length c2) := by
    intro w' hu
    have hc : ∀ j, w'.cell? ⟨b, j, none⟩ = w.cell? ⟨b, j, none⟩ := fun j => World.cell?_of_block (a := ⟨b, j, none⟩) (hu.block b hap.2 hap.1)
    exact ⟨Nat.lt_of_lt_of_le hb hu.size, (hc _).trans g0, (hc _).trans g1, (hc _).trans g2, (hc _).trans g3, (hc _).trans g4, (hc _).trans g5, (hc _).trans g6, (hc _).trans g7⟩
  refine ⟨b, o, f1, c1, f2, c2, rfl, hc, hsame, fun w' hu => ?_, fun w' hu => ?_⟩
  · obtain ⟨x1, y1, x2, y2, h1, h2, h3⟩ := hgen w' hu
    have h6 := h1.2.2.2.2.2.2.2.1
    rw [(hsame w' hu).2.2.2.2.2.2.2.1] at h6
    rw [Option.some.inj h6]
    exact h2
  · obtain ⟨x1, y1, x2, y2, h1, h2, h3⟩ := hgen w' hu
    have h6 := h1.2.2.2.2.2.2.2.2
    rw [(hsame w' hu).2.2.2.2.2.2.2.2] at h6
    rw [Option.some.inj h6]
    exact h3
end

def DK.ptr (k : DK) : Value := .pointer (some ⟨k.p, 0, none⟩)
/-- What was lent of a desk. -/
def DK.part (k : DK) (n : Nat) : Value := match k.rv with
  | .slice a _ c => .slice a n c
  | v => v

theorem DK.part_bat {w : World} {k : DK} {data : List UInt8} (h : k.In w) (hl : k.Lent data) : ∃ g c, k.rv = .slice (some ⟨g, 0, none⟩) k.bs.length c ∧ k.part data.length = .slice (some ⟨g, 0, none⟩) data.length c ∧ BAt w (.slice (some ⟨g, 0, none⟩) data.length c) data ∧ k.own g ∧ data.length ≤ k.bs.length ∧ k.bs.length ≤ c ∧ c ≤ 9223372036854775807 := by
  obtain ⟨g, c, hrv⟩ := hl.room
  have hfit : data.length ≤ k.bs.length := by have h1 := h.fits; rw [hl.n] at h1; exact h1
  have hd := h.data.bat
  rw [hrv] at hd
  obtain ⟨ao, cap, e, h1, h2, h3, h4⟩ := id hd
  injection e with _ _ e3
  subst e3
  have hs := hd.sub (lo := 0) (n := data.length) (by omega)
  have hb : (k.bs.drop 0).take data.length = data := by rw [List.drop_zero, hl.bs]; unfold lent; rw [List.take_left']; rfl
  rw [hb, Nat.sub_zero] at hs
  exact ⟨g, c, hrv, by unfold DK.part; rw [hrv], hs, .inr (by rw [hrv]; rfl), hfit, h1, h2⟩

/-- A room in memory. -/
structure RmL (lab : Nat → Nat) (p B : Nat) (w : World) (lv : Value) (Ms : List MV) (dv : Value) (st : Option DK) (ds : List DK) (R : List (Nat × Obj)) : Prop where
  top : w.heap[p]? = some (.cells #[lv, .pointer (st.map fun k => (⟨k.p, 0, none⟩ : Addr)), dv] 59 (0, 0))
  row : SRow w 48 8 lv Ms.length (Ms.flatMap MV.cells)
  dsk : SRow w 56 1 dv ds.length (ds.map DK.ptr)
  sin : ∀ k : DK, st = some k → k.In w
  din : ∀ (i : Nat) (k : DK), ds[i]? = some k → k.In w
  hp : p < B
  hB : B ≤ w.heap.size
  lab1 : ∀ b, lv.ownBlock = some b → lab b = 1 ∧ B ≤ b
  lab2 : ∀ b, dv.ownBlock = some b → lab b = 2 ∧ B ≤ b
  lab3 : ∀ k : DK, st = some k → ∀ b, k.own b → lab b = 3 ∧ B ≤ b
  lab4 : ∀ (i : Nat) (k : DK), ds[i]? = some k → ∀ b, k.own b → lab b = 4 + i ∧ B ≤ b
  box : ∀ r ∈ R, w.heap[r.1]? = some r.2 ∧ lab r.1 = 0 ∧ B ≤ r.1

def RmIn (p B : Nat) (w : World) (lv : Value) (Ms : List MV) (dv : Value) (st : Option DK) (ds : List DK) (R : List (Nat × Obj)) : Prop := ∃ lab, RmL lab p B w lv Ms dv st ds R

section
variable {p B : Nat} {w w' : World} {lv dv : Value} {Ms : List MV} {st : Option DK} {ds : List DK} {lab : Nat → Nat} {R : List (Nat × Obj)}

theorem RmL.slt (h : RmL lab p B w lv Ms dv st ds R) {k : DK} (hk : st = some k) {b : Nat} (hb : k.own b) : b < w.heap.size := (h.sin k hk).lt hb
theorem RmL.dlt (h : RmL lab p B w lv Ms dv st ds R) {i : Nat} {k : DK} (hk : ds[i]? = some k) {b : Nat} (hb : k.own b) : b < w.heap.size := (h.din i k hk).lt hb

theorem RmIn.quiet (h : RmIn p B w lv Ms dv st ds R) (hu : Upd (fun _ => False) w w') : RmIn p B w' lv Ms dv st ds R := by
  obtain ⟨lab, h⟩ := h
  exact ⟨lab, hu.get h.top (fun e => e), SRow.upd h.row hu (fun _ _ e => e), SRow.upd h.dsk hu (fun _ _ e => e), fun k hk => (h.sin k hk).upd hu (fun _ _ e => e), fun i k hk => (h.din i k hk).upd hu (fun _ _ e => e), h.hp, Nat.le_trans h.hB hu.size, h.lab1, h.lab2, h.lab3, h.lab4, fun r hr => ⟨hu.get (h.box r hr).1 (fun e => e), (h.box r hr).2⟩⟩

theorem RmIn.sub {R' : List (Nat × Obj)} (h : RmIn p B w lv Ms dv st ds R) (hR : ∀ r ∈ R', r ∈ R) : RmIn p B w lv Ms dv st ds R' := by
  obtain ⟨lab, h⟩ := h
  exact ⟨lab, h.top, h.row, h.dsk, h.sin, h.din, h.hp, h.hB, h.lab1, h.lab2, h.lab3, h.lab4, fun r hr => h.box r (hR r hr)⟩

/-- A new box beside. -/
theorem RmIn.push (h : RmIn p B w lv Ms dv st ds R) (o : Obj) : RmIn p B (w.alloc o) lv Ms dv st ds ((w.heap.size, o) :: R) ∧ Upd (OutR p B) w (w.alloc o) := by
  obtain ⟨lab, h⟩ := h
  have hu : Upd (fun _ => False) w (w.alloc o) := (Upd.refl _ _).alloc o
  refine ⟨⟨fun b => if b < w.heap.size then lab b else 0, hu.get h.top (fun e => e), SRow.upd h.row hu (fun _ _ e => e), SRow.upd h.dsk hu (fun _ _ e => e), fun k hk => (h.sin k hk).upd hu (fun _ _ e => e), fun i k hk => (h.din i k hk).upd hu (fun _ _ e => e), h.hp, Nat.le_trans h.hB hu.size, ?_, ?_, ?_, ?_, ?_⟩, hu.mono (fun _ _ e => e.elim)⟩
  · intro b e
    rw [if_pos (h.row.lt b e)]
    exact h.lab1 b e
  · intro b e
    rw [if_pos (h.dsk.lt b e)]
    exact h.lab2 b e
  · intro k2 hk2 b e
    rw [if_pos (h.slt hk2 e)]
    exact h.lab3 k2 hk2 b e
  · intro j k2 hk2 b e
    rw [if_pos (h.dlt hk2 e)]
    exact h.lab4 j k2 hk2 b e
  · intro r hr
    rcases List.mem_cons.1 hr with rfl | hr
    · exact ⟨heap_alloc_new w o, if_neg (Nat.lt_irrefl _), h.hB⟩
    · obtain ⟨b1, b2, b3⟩ := h.box r hr
      refine ⟨hu.get b1 (fun e => e), ?_, b3⟩
      show (if r.1 < w.heap.size then lab r.1 else 0) = 0
      rw [if_pos (lt_of_heap b1)]
      exact b2

/-- A box beside is written. -/
theorem RmIn.set {b : Nat} {o o' : Obj} {R' : List (Nat × Obj)} (h : RmIn p B w lv Ms dv st ds R) (hb : (b, o) ∈ R) (hu : Upd (fun k => k = b) w w') (ho : w'.heap[b]? = some o') (hR : ∀ r ∈ R', r ∈ R ∧ r.1 ≠ b) :
    RmIn p B w' lv Ms dv st ds ((b, o') :: R') ∧ Upd (OutR p B) w w' := by
  obtain ⟨lab, h⟩ := h
  obtain ⟨b1, b2, b3⟩ := h.box _ hb
  simp only at b1 b2 b3
  have hp := h.hp
  refine ⟨⟨lab, hu.get h.top (fun e => by omega), SRow.upd h.row hu (fun c e e2 => by subst e2; have := (h.lab1 _ e).1; omega), SRow.upd h.dsk hu (fun c e e2 => by subst e2; have := (h.lab2 _ e).1; omega), fun k hk => (h.sin k hk).upd hu (fun c e e2 => by subst e2; have := (h.lab3 k hk _ e).1; omega), fun i k hk => (h.din i k hk).upd hu (fun c e e2 => by subst e2; have := (h.lab4 i k hk _ e).1; omega), h.hp, Nat.le_trans h.hB hu.size, h.lab1, h.lab2, h.lab3, h.lab4, fun r hr => ?_⟩, hu.mono (fun c _ e => .inr (by omega))⟩
  rcases List.mem_cons.1 hr with rfl | hr
  · exact ⟨ho, b2, b3⟩
  · obtain ⟨c1, c2, c3⟩ := h.box r (hR r hr).1
    exact ⟨hu.get c1 (hR r hr).2, c2, c3⟩
theorem RmIn.get (h : RmIn p B w lv Ms dv st ds R) {b : Nat} {o : Obj} (hb : (b, o) ∈ R) : w.heap[b]? = some o ∧ B ≤ b := by
  obtain ⟨lab, h⟩ := h
  exact ⟨(h.box _ hb).1, (h.box _ hb).2.2⟩

/-- A desk was lent or wiped. -/
theorem RmIn.desk {i : Nat} {k k' : DK} (h : RmIn p B w lv Ms dv st ds R) (hi : ds[i]? = some k) (hs : DStep w w' k k') : RmIn p B w' lv Ms dv st (ds.set i k') R ∧ Upd (OutR p B) w w' := by
  obtain ⟨lab, h⟩ := h
  have hil : i < ds.length := (List.getElem?_eq_some_iff.1 hi).1
  have hpw : p < w.heap.size := lt_of_heap h.top
  have hpo : ¬ k.own p := fun e => by have := (h.lab4 i k hi p e).2; have := h.hp; omega
  have hut : Upd (OutR p B) w w' := hs.upd.mono (fun b _ e => .inr (h.lab4 i k hi b e).2)
  have hn4 : ∀ j k2, ds[j]? = some k2 → j ≠ i → ∀ b, k2.own b → ¬ k.own b := fun j k2 hj hne b e e2 => by
    have h1 := (h.lab4 j k2 hj b e).1; have h2 := (h.lab4 i k hi b e2).1; omega
  refine ⟨⟨fun b => if b < w.heap.size then lab b else 4 + i, hs.upd.get h.top hpo, SRow.upd h.row hs.upd (fun b e e2 => by have h1 := (h.lab1 b e).1; have h2 := (h.lab4 i k hi b e2).1; omega), ?_, ?_, ?_, h.hp, Nat.le_trans h.hB hs.upd.size, ?_, ?_, ?_, ?_, ?_⟩, hut⟩
  · have h1 := SRow.upd h.dsk hs.upd (fun b e e2 => by have h1 := (h.lab2 b e).1; have h2 := (h.lab4 i k hi b e2).1; omega)
    rw [List.length_set]
    have e : (ds.set i k').map DK.ptr = ds.map DK.ptr := by
      rw [List.map_set]
      apply List.ext_getElem?
      intro j
      rw [List.getElem?_set]
      by_cases hj : i = j
      · subst hj
        rw [if_pos rfl, List.length_map, if_pos hil, List.getElem?_map, hi]
        show some k'.ptr = some k.ptr
        unfold DK.ptr
        rw [hs.p]
      · rw [if_neg hj]
    rw [e]
    exact h1
  · intro k2 hk2
    exact (h.sin k2 hk2).upd hs.upd (fun b e e2 => by have h1 := (h.lab3 k2 hk2 b e).1; have h2 := (h.lab4 i k hi b e2).1; omega)
  · intro j k2 hk2
    rw [List.getElem?_set] at hk2
    by_cases hj : i = j
    · rw [if_pos hj, if_pos hil] at hk2
      rw [← Option.some.inj hk2]
      exact hs.ins
    · rw [if_neg hj] at hk2
      exact (h.din j k2 hk2).upd hs.upd (hn4 j k2 hk2 (fun e => hj e.symm))
  · intro b e
    rw [if_pos (h.row.lt b e)]
    exact h.lab1 b e
  · intro b e
    rw [if_pos (h.dsk.lt b e)]
    exact h.lab2 b e
  · intro k2 hk2 b e
    rw [if_pos (h.slt hk2 e)]
    exact h.lab3 k2 hk2 b e
  · intro j k2 hk2 b e
    rw [List.getElem?_set] at hk2
    by_cases hj : i = j
    · subst hj
      rw [if_pos rfl, if_pos hil] at hk2
      have hk3 := Option.some.inj hk2
      subst hk3
      rcases hs.foot b e with e2 | e2
      · rw [if_pos (h.dlt hi e2)]
        exact h.lab4 i k hi b e2
      · rw [if_neg (by omega)]
        exact ⟨rfl, Nat.le_trans h.hB e2⟩
    · rw [if_neg hj] at hk2
      rw [if_pos (h.dlt hk2 e)]
      exact h.lab4 j k2 hk2 b e
  · intro r hr
    obtain ⟨b1, b2, b3⟩ := h.box r hr
    refine ⟨hs.upd.get b1 (fun e => by have := (h.lab4 i k hi _ e).1; omega), ?_, b3⟩
    show (if r.1 < w.heap.size then lab r.1 else 4 + i) = 0
    rw [if_pos (lt_of_heap b1)]
    exact b2

/-- State's desk was lent or wiped. -/
theorem RmIn.state {k k' : DK} (h : RmIn p B w lv Ms dv (some k) ds R) (hs : DStep w w' k k') : RmIn p B w' lv Ms dv (some k') ds R ∧ Upd (OutR p B) w w' := by
  obtain ⟨lab, h⟩ := h
  have hpo : ¬ k.own p := fun e => by have := (h.lab3 k rfl p e).2; have := h.hp; omega
  have hut : Upd (OutR p B) w w' := hs.upd.mono (fun b _ e => .inr (h.lab3 k rfl b e).2)
  refine ⟨⟨fun b => if b < w.heap.size then lab b else 3, ?_, SRow.upd h.row hs.upd (fun b e e2 => by have h1 := (h.lab1 b e).1; have h2 := (h.lab3 k rfl b e2).1; omega), SRow.upd h.dsk hs.upd (fun b e e2 => by have h1 := (h.lab2 b e).1; have h2 := (h.lab3 k rfl b e2).1; omega), ?_, ?_, h.hp, Nat.le_trans h.hB hs.upd.size, ?_, ?_, ?_, ?_, ?_⟩, hut⟩
  · have h1 := hs.upd.get h.top hpo
    simp only [Option.map_some] at h1 ⊢
    rw [hs.p]
    exact h1
  · intro k2 hk2
    rw [← Option.some.inj hk2]
    exact hs.ins
  · intro j k2 hk2
    exact (h.din j k2 hk2).upd hs.upd (fun b e e2 => by have h1 := (h.lab4 j k2 hk2 b e).1; have h2 := (h.lab3 k rfl b e2).1; omega)
  · intro b e
    rw [if_pos (h.row.lt b e)]
    exact h.lab1 b e
  · intro b e
    rw [if_pos (h.dsk.lt b e)]
    exact h.lab2 b e
  · intro k2 hk2 b e
    rw [← Option.some.inj hk2] at e
    rcases hs.foot b e with e2 | e2
    · rw [if_pos (h.slt rfl e2)]
      exact h.lab3 k rfl b e2
    · rw [if_neg (by omega)]
      exact ⟨rfl, Nat.le_trans h.hB e2⟩
  · intro j k2 hk2 b e
    rw [if_pos (h.dlt hk2 e)]
    exact h.lab4 j k2 hk2 b e
  · intro r hr
    obtain ⟨b1, b2, b3⟩ := h.box r hr
    refine ⟨hs.upd.get b1 (fun e => by have := (h.lab3 k rfl _ e).1; omega), ?_, b3⟩
    show (if r.1 < w.heap.size then lab r.1 else 3) = 0
    rw [if_pos (lt_of_heap b1)]
    exact b2

/-- State got its desk. -/
theorem RmIn.newState {k : DK} (h : RmIn p B w lv Ms dv none ds R) (hu : Upd (fun b => b = p) w w') (ht : w'.heap[p]? = some (.cells #[lv, .pointer (some ⟨k.p, 0, none⟩), dv] 59 (0, 0))) (hk : k.In w') (hn : ∀ b, k.own b → w.heap.size ≤ b) :
    RmIn p B w' lv Ms dv (some k) ds R ∧ Upd (OutR p B) w w' := by
  obtain ⟨lab, h⟩ := h
  have hp := h.hp
  refine ⟨⟨fun b => if b < w.heap.size then lab b else 3, ht, SRow.upd h.row hu (fun b e e2 => by have h1 := (h.lab1 b e).2; omega), SRow.upd h.dsk hu (fun b e e2 => by have h1 := (h.lab2 b e).2; omega), ?_, ?_, h.hp, Nat.le_trans h.hB hu.size, ?_, ?_, ?_, ?_, ?_⟩, hu.mono (fun b _ e => .inl e)⟩
  · intro k2 hk2
    rw [← Option.some.inj hk2]
    exact hk
  · intro j k2 hk2
    exact (h.din j k2 hk2).upd hu (fun b e e2 => by have h1 := (h.lab4 j k2 hk2 b e).2; omega)
  · intro b e
    rw [if_pos (h.row.lt b e)]
    exact h.lab1 b e
  · intro b e
    rw [if_pos (h.dsk.lt b e)]
    exact h.lab2 b e
  · intro k2 hk2 b e
    rw [← Option.some.inj hk2] at e
    have e2 := hn b e
    rw [if_neg (by omega)]
    exact ⟨rfl, Nat.le_trans h.hB e2⟩
  · intro j k2 hk2 b e
    rw [if_pos (h.dlt hk2 e)]
    exact h.lab4 j k2 hk2 b e
  · intro r hr
    obtain ⟨b1, b2, b3⟩ := h.box r hr
    refine ⟨hu.get b1 (fun e => by omega), ?_, b3⟩
    show (if r.1 < w.heap.size then lab r.1 else 3) = 0
    rw [if_pos (lt_of_heap b1)]
    exact b2

/-- The list was written, or made anew. -/
theorem RmIn.list {lv' : Value} {Ms' : List MV} (h : RmIn p B w lv Ms dv st ds R) (hu : Upd (fun b => b = p ∨ lv.ownBlock = some b) w w') (ht : w'.heap[p]? = some (.cells #[lv', .pointer (st.map fun k => (⟨k.p, 0, none⟩ : Addr)), dv] 59 (0, 0)))
    (hr : SRow w' 48 8 lv' Ms'.length (Ms'.flatMap MV.cells)) (ho : ∀ b, lv'.ownBlock = some b → lv.ownBlock = some b ∨ w.heap.size ≤ b) :
    RmIn p B w' lv' Ms' dv st ds R ∧ Upd (OutR p B) w w' := by
  obtain ⟨lab, h⟩ := h
  have hp := h.hp
  have hS : ∀ b c, lab b = c → B ≤ b → c ≠ 1 → ¬ (b = p ∨ lv.ownBlock = some b) := fun b c h1 h2 h3 e => by
    rcases e with e | e
    · omega
    · have := (h.lab1 b e).1; omega
  refine ⟨⟨fun b => if b < w.heap.size then lab b else 1, ht, hr, SRow.upd h.dsk hu (fun b e => hS b 2 (h.lab2 b e).1 (h.lab2 b e).2 (by omega)), ?_, ?_, h.hp, Nat.le_trans h.hB hu.size, ?_, ?_, ?_, ?_, ?_⟩, hu.mono (fun b _ e => e.imp id (fun e => (h.lab1 b e).2))⟩
  · intro k2 hk2
    exact (h.sin k2 hk2).upd hu (fun b e => hS b 3 (h.lab3 k2 hk2 b e).1 (h.lab3 k2 hk2 b e).2 (by omega))
  · intro j k2 hk2
    exact (h.din j k2 hk2).upd hu (fun b e => hS b (4 + j) (h.lab4 j k2 hk2 b e).1 (h.lab4 j k2 hk2 b e).2 (by omega))
  · intro b e
    rcases ho b e with e | e
    · rw [if_pos (h.row.lt b e)]
      exact h.lab1 b e
    · rw [if_neg (by omega)]
      exact ⟨rfl, Nat.le_trans h.hB e⟩
  · intro b e
    rw [if_pos (h.dsk.lt b e)]
    exact h.lab2 b e
  · intro k2 hk2 b e
    rw [if_pos (h.slt hk2 e)]
    exact h.lab3 k2 hk2 b e
  · intro j k2 hk2 b e
    rw [if_pos (h.dlt hk2 e)]
    exact h.lab4 j k2 hk2 b e
  · intro r hr
    obtain ⟨b1, b2, b3⟩ := h.box r hr
    refine ⟨hu.get b1 (fun e => e.elim (fun e => by omega) (fun e => by have := (h.lab1 _ e).1; omega)), ?_, b3⟩
    show (if r.1 < w.heap.size then lab r.1 else 1) = 0
    rw [if_pos (lt_of_heap b1)]
    exact b2

/-- One more desk. -/
theorem RmIn.more {dv' : Value} {k : DK} (h : RmIn p B w lv Ms dv st ds R) (hu : Upd (fun b => b = p ∨ dv.ownBlock = some b) w w') (ht : w'.heap[p]? = some (.cells #[lv, .pointer (st.map fun k => (⟨k.p, 0, none⟩ : Addr)), dv'] 59 (0, 0)))
    (hr : SRow w' 56 1 dv' (ds.length + 1) (ds.map DK.ptr ++ [k.ptr])) (ho : ∀ b, dv'.ownBlock = some b → dv.ownBlock = some b ∨ (w.heap.size ≤ b ∧ b ≠ k.p)) (hk : k.In w') (hk2 : w.heap.size ≤ k.p) (hk3 : ∀ b, k.own b → b = k.p) :
    RmIn p B w' lv Ms dv' st (ds ++ [k]) R ∧ Upd (OutR p B) w w' := by
  obtain ⟨lab, h⟩ := h
  have hp := h.hp
  have hS : ∀ b c, lab b = c → B ≤ b → c ≠ 2 → ¬ (b = p ∨ dv.ownBlock = some b) := fun b c h1 h2 h3 e => by
    rcases e with e | e
    · omega
    · have := (h.lab2 b e).1; omega
  refine ⟨⟨fun b => if b < w.heap.size then lab b else if b = k.p then 4 + ds.length else 2, ht, SRow.upd h.row hu (fun b e => hS b 1 (h.lab1 b e).1 (h.lab1 b e).2 (by omega)), ?_, ?_, ?_, h.hp, Nat.le_trans h.hB hu.size, ?_, ?_, ?_, ?_, ?_⟩, hu.mono (fun b _ e => e.imp id (fun e => (h.lab2 b e).2))⟩
  · rw [List.length_append, List.map_append]
    exact hr
  · intro k2 hk2
    exact (h.sin k2 hk2).upd hu (fun b e => hS b 3 (h.lab3 k2 hk2 b e).1 (h.lab3 k2 hk2 b e).2 (by omega))
  · intro j k2 hj
    by_cases hjl : j < ds.length
    · rw [List.getElem?_append_left hjl] at hj
      exact (h.din j k2 hj).upd hu (fun b e => hS b (4 + j) (h.lab4 j k2 hj b e).1 (h.lab4 j k2 hj b e).2 (by omega))
    · rw [List.getElem?_append_right (by omega)] at hj
      have hj2 : k2 = k := by
        have h1 := List.mem_of_getElem? hj
        simpa using h1
      rw [hj2]
      exact hk
  · intro b e
    rw [if_pos (h.row.lt b e)]
    exact h.lab1 b e
  · intro b e
    rcases ho b e with e | ⟨e, e2⟩
    · rw [if_pos (h.dsk.lt b e)]
      exact h.lab2 b e
    · rw [if_neg (by omega), if_neg e2]
      exact ⟨rfl, Nat.le_trans h.hB e⟩
  · intro k2 hk2 b e
    rw [if_pos (h.slt hk2 e)]
    exact h.lab3 k2 hk2 b e
  · intro j k2 hj b e
    by_cases hjl : j < ds.length
    · rw [List.getElem?_append_left hjl] at hj
      rw [if_pos (h.dlt hj e)]
      exact h.lab4 j k2 hj b e
    · rw [List.getElem?_append_right (by omega)] at hj
      have hj2 : k2 = k := by
        have h1 := List.mem_of_getElem? hj
        simpa using h1
      have hj3 : j = ds.length := by
        have h1 := (List.getElem?_eq_some_iff.1 hj).1
        simp at h1
        omega
      subst hj2
      subst hj3
      have hb := hk3 b e
      subst hb
      rw [if_neg (by omega), if_pos rfl]
      exact ⟨rfl, Nat.le_trans h.hB hk2⟩
  · intro r hr
    obtain ⟨b1, b2, b3⟩ := h.box r hr
    refine ⟨hu.get b1 (fun e => e.elim (fun e => by omega) (fun e => by have := (h.lab2 _ e).1; omega)), ?_, b3⟩
    show (if r.1 < w.heap.size then lab r.1 else (if r.1 = k.p then 4 + ds.length else 2)) = 0
    rw [if_pos (lt_of_heap b1)]
    exact b2
end

/-- The mark of a place of the list. -/
def markM (i : Nat) : MetaA := ⟨-500 - (i : Int), 0, 0, 0, 0, 0, [], []⟩
def markMV (i : Nat) : MV := ⟨markM i, .slice none 0 0, .slice none 0 0⟩

/-- The first n runs are laid. -/
structure LaidTo (n : Nat) (runs : List MetaA) (Ms : List MV) (ds : List DK) : Prop where
  big : 2 * runs.length + 9 ≤ Ms.length
  dbig : 2 * runs.length ≤ ds.length
  run : ∀ i (h : i < runs.length), i < n → ∃ k1 k2, ds[2 * i]? = some k1 ∧ ds[2 * i + 1]? = some k2 ∧ k1.Lent runs[i].first ∧ k2.Lent runs[i].last ∧ Ms[i]? = some ⟨runs[i], k1.part runs[i].first.length, k2.part runs[i].last.length⟩
  mark : ∀ i, i < Ms.length → n ≤ i → Ms[i]? = some (markMV i)

theorem LaidTo.step {n : Nat} {runs : List MetaA} {Ms : List MV} {ds : List DK} (h : LaidTo n runs Ms ds) (hn : n < runs.length) {k1 k2 : DK} (h1 : k1.Lent runs[n].first) (h2 : k2.Lent runs[n].last) :
    LaidTo (n + 1) runs (Ms.set n ⟨runs[n], k1.part runs[n].first.length, k2.part runs[n].last.length⟩) ((ds.set (2 * n) k1).set (2 * n + 1) k2) := by
  have hb := h.big
  have hd := h.dbig
  refine ⟨by rw [List.length_set]; exact hb, by rw [List.length_set, List.length_set]; exact hd, fun i hi hlt => ?_, fun i hi hle => ?_⟩
  · by_cases e : i = n
    · subst e
      refine ⟨k1, k2, ?_, ?_, h1, h2, ?_⟩
      · rw [List.getElem?_set_ne (by omega), List.getElem?_set_self (by omega)]
      · rw [List.getElem?_set_self (by rw [List.length_set]; omega)]
      · rw [List.getElem?_set_self (by omega)]
    · obtain ⟨a, b, q1, q2, q3, q4, q5⟩ := h.run i hi (by omega)
      refine ⟨a, b, ?_, ?_, q3, q4, ?_⟩
      · rw [List.getElem?_set_ne (by omega), List.getElem?_set_ne (by omega)]; exact q1
      · rw [List.getElem?_set_ne (by omega), List.getElem?_set_ne (by omega)]; exact q2
      · rw [List.getElem?_set_ne (by omega)]; exact q5
  · rw [List.length_set] at hi
    rw [List.getElem?_set_ne (by omega)]
    exact h.mark i hi (by omega)

/-- What lies in a room reads as the version. -/
theorem RmIn.ver {p B : Nat} {w : World} {R : List (Nat × Obj)} {lv dv : Value} {Ms : List MV} {k : DK} {ds : List DK} {x : VerA} (h : RmIn p B w lv Ms dv (some k) ds R) (hl : LaidTo x.runs.length x.runs Ms ds) (hk : k.Lent x.state) :
    ∃ gs cs gl cl, k.rv = .slice (some ⟨gs, 0, none⟩) k.bs.length cs ∧ lv = .slice (some ⟨gl, 0, none⟩) Ms.length cl ∧ Ms.length ≤ cl ∧ cl ≤ 9223372036854775807 ∧
      VerAt w (.agg #[.int .i64 x.gen, .int .i64 x.flushed, .int .i64 x.next, .int .i64 x.low, .int .i64 x.clock, .slice (some ⟨gs, 0, none⟩) x.state.length cs, .slice (some ⟨gl, 0, none⟩) x.runs.length cl]) x := by
  obtain ⟨lab, h⟩ := h
  obtain ⟨gs, cs, e1, -, e3, -⟩ := DK.part_bat (h.sin k rfl) hk
  have hb := hl.big
  obtain ⟨gl, cl, e4, hgl, -⟩ := SRow.cell h.row (k := 0) (u := (Ms.flatMap MV.cells)[0]'(by have := h.row.1; omega)) (by rw [List.getElem?_eq_getElem])
  obtain ⟨ao, c, e5, q1, q2, -⟩ := h.row.slice
  rw [e4] at e5
  injection e5 with i1 i2 i3
  subst i3
  refine ⟨gs, cs, gl, cl, e1, e4, q1, q2, some ⟨gs, 0, none⟩, cs, some ⟨gl, 0, none⟩, cl, rfl, e3, some ⟨gl, 0, none⟩, cl, rfl, by omega, q2, fun i hi => ?_⟩
  obtain ⟨k1, k2, d1, d2, l1, l2, hM⟩ := hl.run i hi hi
  have hiM : i < Ms.length := (List.getElem?_eq_some_iff.1 hM).1
  have hMi : Ms[i] = ⟨x.runs[i], k1.part x.runs[i].first.length, k2.part x.runs[i].last.length⟩ := by
    rw [List.getElem?_eq_getElem hiM] at hM
    exact Option.some.inj hM
  obtain ⟨g1, c1, a1, a2, a3, -⟩ := DK.part_bat (h.din _ k1 d1) l1
  obtain ⟨g2, c2, b1, b2, b3, -⟩ := DK.part_bat (h.din _ k2 d2) l2
  have hc : ∀ j, j < 8 → w.cell? ⟨gl, 0 + i * 8 + j, none⟩ = (MV.cells Ms[i])[j]? := fun j hj => by
    have hf := flat_get MV.cells 8 (fun a => rfl) Ms i hiM j hj
    have hj8 : j < (MV.cells Ms[i]).length := hj
    rw [List.getElem?_eq_getElem hj8] at hf ⊢
    obtain ⟨g', c', e', -, hcell⟩ := SRow.cell h.row hf
    rw [e4] at e'
    injection e' with e' _ _
    injection e' with e'
    injection e' with e'
    subst e'
    rw [Nat.zero_add]
    exact hcell
  rw [hMi, a2, b2] at hc
  exact ⟨gl, 0, some ⟨g1, 0, none⟩, c1, some ⟨g2, 0, none⟩, c2, rfl, hgl, hc 0 (by omega), hc 1 (by omega), hc 2 (by omega), hc 3 (by omega), hc 4 (by omega), hc 5 (by omega), hc 6 (by omega), hc 7 (by omega), a3, b3⟩

end Go.Proofs.YtgaidmohdhaonaaGreatDoor

namespace Go.Proofs.YtgaidmohdhaonaaGreatDoor
set_option linter.unusedVariables false
set_option linter.unusedSimpArgs false
set_option linter.unnecessarySimpa false
set_option linter.unusedSectionVars false
open Go Go.RowKit

theorem Tryz.infoDeskP : (Tryz.prog.info? 56).map (fun i => (i.zero, i.size, i.bytes)) = some (some (.pointer none), 1, 8) := by kernel_rfl
theorem rowDesk : RowTy 57 56 1 8 := by
  obtain ⟨i0, hi, hz0, hz1, hz2⟩ := info_parts Tryz.infoDeskP
  exact ⟨Tryz.underlying57, ⟨i0, _, hi, hz0, hz1, hz2, rfl⟩, by decide, by decide⟩

section
variable {T E : TypeId} {z b : Nat}

/-- What an append leaves, however long the row is. -/
theorem RowTy.more2 (hr : RowTy T E z b) {w : World} {v : Value} {n : Nat} {xs : List Value} (h : SRow w E z v n xs) (a : Addr) (m c : Nat) (news : List Value) (hl : news.length = m * z) (hnews : ∀ j u, news[j]? = some u → w.cell? (a.add j) = some u)
    (h1 : ∀ u ∈ news, u.oneCell' = true) (hn : n + m ≤ 9223372036854775807) (hby : (n + m) * b ≤ 140737488355328) (ty : TypeId) :
    ∃ v' w', (Builtin.append_ #[T, T] ty #[v, .slice (some a) m c]).run Tryz.prog w = .ok v' w' ∧ SRow w' E z v' (n + m) (xs ++ news) ∧
      Upd (fun k => v.ownBlock = some k) w w' ∧ (∀ k, v'.ownBlock = some k → v.ownBlock = some k ∨ w.heap.size ≤ k) ∧ (v'.ownBlock = v.ownBlock ∨ Upd (fun _ => False) w w') := by
  obtain ⟨i0, zz, hi, hz0, hz1, hz2, hz3⟩ := hr.info
  have hlen : (xs ++ news).length = (n + m) * z := by rw [List.length_append, h.1, hl, Nat.add_mul]
  rcases id h.2 with ⟨rfl, rfl⟩ | ⟨g, cap, cur, rfl, hg, hnc, hcm, hcs, htake⟩
  · have hx : xs = [] := List.eq_nil_of_length_eq_zero (by have := h.1; simpa using this)
    subst hx
    obtain ⟨v', w', hrun, hown, hgr, -, hat⟩ := run_append_own_at (P := Tryz.prog) w 0 T ty E i0 zz z b hr.und hi hz0 hz1 hz2 hz3 hr.pos (.slice none 0 0) 0 [] (World.ownsRow_nil _ _ _ _) a m c news hl hnews h1 (by unfold maxLen; omega) hby (Nat.zero_le _)
    have hu : Upd (fun _ => False) w w' := (Upd.refl _ _).grown hgr (fun k hk _ => by cases hk)
    refine ⟨v', w', hrun, SRow.of_owns hown, hu.mono (fun _ _ e => e.elim), fun k hk => ?_, .inr hu⟩
    rcases hat with h1 | h1
    · exact .inl (h1 ▸ hk)
    · rw [h1] at hk
      injection hk with hk
      exact .inr (by omega)
  · subst hz1
    by_cases hroom : n + m ≤ cap
    · have hfit : n * i0.size + news.length ≤ cur.size := by rw [hl, ← Nat.add_mul]; exact Nat.le_trans (Nat.mul_le_mul_right _ hroom) hcs
      have hr2 := run_append_room (P := Tryz.prog) w T ty E i0 hr.und hi g n cap cur hg a m c news hl hnews h1 hroom hfit
      refine ⟨_, _, hr2, ⟨hlen, .inr ⟨g, cap, _, rfl, setRow_heap w g cur _ E _ hg, hroom, hcm, ?_, ?_⟩⟩, (Upd.refl _ _).grown (row := some g) ⟨rfl, rfl, rfl, by simp, fun k _ hk => setRow_other w g k _ (fun e => hk (by rw [e]))⟩ (fun k hk _ => hk), fun k hk => .inl hk, .inl rfl⟩
      · simp only [List.size_toArray, List.length_append, List.length_take, List.length_drop, Array.length_toList]
        omega
      · rw [htake, ← hlen]
        exact List.take_left
    · have hr2 := run_append_grow (P := Tryz.prog) w T ty E i0 zz hr.und hi hz0 ⟨g, 0, none⟩ n cap xs h.1 (h.cells rfl) a m c news hl hnews (by omega) (by omega) (growslice_fits (by omega) (by rw [hz2]; exact hby))
      have hge := grownCap_ge w (n + m) cap E
      have hcm : grownCap w (n + m) cap E ≤ maxLen := grownCap_le_maxLen w (n + m) cap E (by unfold maxLen; omega)
      refine ⟨_, _, hr2, ⟨hlen, .inr ⟨w.heap.size, _, _, rfl, heap_alloc_new w.drew _, hge, hcm, ?_, ?_⟩⟩, ((Upd.refl _ _).drew).alloc _, fun k hk => .inr (by simp only [Value.ownBlock, Option.some.injEq] at hk; omega), .inr (((Upd.refl _ _).drew).alloc _)⟩
      · apply Nat.le_of_eq
        simp only [Array.size_append, List.size_toArray, size_zeroCells, hz3, h.1, hl]
        rw [← Nat.add_mul, ← Nat.add_mul]
        exact congrArg (fun q => q * i0.size) (by omega)
      · simp only [Array.toList_append, List.append_assoc]
        rw [← List.append_assoc, ← hlen]
        exact List.take_left
end

/-- A run is written over another. -/
theorem flat_set8 {Ms : List MV} {k : Nat} (hk : k < Ms.length) (y : MV) :
    (((((((((Ms.flatMap MV.cells).set (k * 8) (.int .i64 y.m.num)).set (k * 8 + 1) (.int .i64 y.m.count)).set (k * 8 + 2) (.int .i64 y.m.index)).set (k * 8 + 3) (.int .i64 y.m.low)).set (k * 8 + 4) (.int .i64 y.m.clock)).set (k * 8 + 5) (.int .i64 y.m.bytes)).set (k * 8 + 6) y.f).set (k * 8 + 7) y.l) = (Ms.set k y).flatMap MV.cells := by
  obtain ⟨A, m, B, rfl, hA⟩ : ∃ A m B, Ms = A ++ m :: B ∧ A.length = k := ⟨Ms.take k, Ms[k], Ms.drop (k + 1), by simp, by simp; omega⟩
  have hr : (A.flatMap MV.cells).length = k * 8 := by
    rw [← hA]
    clear hk hA
    induction A with
    | nil => rfl
    | cons a A ih => rw [List.flatMap_cons, List.length_append, ih]; simp [MV.cells]; omega
  have hs : (A ++ m :: B).set k y = A ++ y :: B := by rw [← hA]; simp
  rw [hs, List.flatMap_append, List.flatMap_append, List.flatMap_cons, List.flatMap_cons]
  generalize A.flatMap MV.cells = AA at hr
  rw [List.set_append_right _ _ (by omega), List.set_append_right _ _ (by omega), List.set_append_right _ _ (by omega), List.set_append_right _ _ (by omega), List.set_append_right _ _ (by omega), List.set_append_right _ _ (by omega), List.set_append_right _ _ (by omega), List.set_append_right _ _ (by omega)]
  simp only [hr, Nat.sub_self, Nat.add_sub_cancel_left, MV.cells, List.cons_append, List.set_cons_zero, List.set_cons_succ, List.nil_append]

/-- The eight cells of one run are written. -/
theorem row_set8 {w : World} {v : Value} {n k : Nat} {xs : List Value} (h : SRow w 48 8 v n xs) (hk : k < n) :
    ∃ g cap, v = .slice (some ⟨g, 0, none⟩) n cap ∧ g < w.heap.size ∧ n ≤ cap ∧ cap ≤ 9223372036854775807 ∧ (∀ j, j < 8 → (∃ u, w.cell? ⟨g, k * 8 + j, none⟩ = some u) ∧ w.frozen? ⟨g, k * 8 + j, none⟩ = false) ∧
      ∀ u0 u1 u2 u3 u4 u5 u6 u7 : Value, SRow ((((((((w.setCell ⟨g, k * 8, none⟩ u0).setCell ⟨g, k * 8 + 1, none⟩ u1).setCell ⟨g, k * 8 + 2, none⟩ u2).setCell ⟨g, k * 8 + 3, none⟩ u3).setCell ⟨g, k * 8 + 4, none⟩ u4).setCell ⟨g, k * 8 + 5, none⟩ u5).setCell ⟨g, k * 8 + 6, none⟩ u6).setCell ⟨g, k * 8 + 7, none⟩ u7) 48 8 v n
        ((((((((xs.set (k * 8) u0).set (k * 8 + 1) u1).set (k * 8 + 2) u2).set (k * 8 + 3) u3).set (k * 8 + 4) u4).set (k * 8 + 5) u5).set (k * 8 + 6) u6).set (k * 8 + 7) u7) := by
  have st : ∀ {w : World} {xs : List Value} (g cap : Nat) (j : Nat) (u : Value), SRow w 48 8 (.slice (some ⟨g, 0, none⟩) n cap) n xs → j < 8 → SRow (w.setCell ⟨g, k * 8 + j, none⟩ u) 48 8 (.slice (some ⟨g, 0, none⟩) n cap) n (xs.set (k * 8 + j) u) := by
    intro w xs g cap j u h hj
    obtain ⟨g', cap', old, e, hs, -⟩ := SRow.set (m := k * 8 + j) (u := u) h (by omega)
    injection e with e1 _ _
    injection e1 with e1
    injection e1 with e1
    subst e1
    exact hs
  obtain ⟨g, cap, old, rfl, -, hgl, hold, -, hnc, hcm⟩ := id (SRow.set (m := k * 8) (u := undef) h (by omega))
  refine ⟨g, cap, rfl, ?_, hnc, hcm, fun j hj => ?_, fun u0 u1 u2 u3 u4 u5 u6 u7 => ?_⟩
  · rcases h.2 with ⟨e, -⟩ | ⟨g', c', cur, e, hg, -⟩
    · cases e
    · injection e with e1 _ _; injection e1 with e1; injection e1 with e1; subst e1; exact lt_of_heap hg
  · rcases h.2 with ⟨e, -⟩ | ⟨g', c', cur, e, hg, q1, q2, q3, q4⟩
    · cases e
    · injection e with e1 _ _; injection e1 with e1; injection e1 with e1; subst e1
      refine ⟨?_, frozen_of_row _ _ _ _ _ hg⟩
      rw [cell_of_row w g _ _ _ _ hg]
      have hlen : k * 8 + j < cur.size := by have := h.1; have : (cur.toList.take (n * 8)).length ≤ cur.size := by rw [List.length_take, Array.length_toList]; omega
                                             rw [q4] at this; omega
      exact ⟨_, Array.getElem?_eq_getElem hlen⟩
  · exact st g cap 7 u7 (st g cap 6 u6 (st g cap 5 u5 (st g cap 4 u4 (st g cap 3 u3 (st g cap 2 u2 (st g cap 1 u1 (st g cap 0 u0 h (by omega)) (by omega)) (by omega)) (by omega)) (by omega)) (by omega)) (by omega)) (by omega)

section
variable {p B : Nat} {w w' : World} {lv dv : Value} {Ms : List MV} {st : Option DK} {ds : List DK} {R : List (Nat × Obj)}

theorem RmIn.topcells (h : RmIn p B w lv Ms dv st ds R) : (w.cell? ⟨p, 0, none⟩ = some lv ∧ w.cell? ⟨p, 1, none⟩ = some (.pointer (st.map fun k => (⟨k.p, 0, none⟩ : Addr))) ∧ w.cell? ⟨p, 2, none⟩ = some dv) ∧ (w.frozen? ⟨p, 0, none⟩ = false ∧ w.frozen? ⟨p, 1, none⟩ = false ∧ w.frozen? ⟨p, 2, none⟩ = false) ∧ p < w.heap.size := by
  obtain ⟨lab, h⟩ := h
  exact ⟨⟨cell_of_row _ _ 0 _ _ _ h.top, cell_of_row _ _ 1 _ _ _ h.top, cell_of_row _ _ 2 _ _ _ h.top⟩, ⟨frozen_of_row _ _ _ _ _ h.top, frozen_of_row _ _ _ _ _ h.top, frozen_of_row _ _ _ _ _ h.top⟩, lt_of_heap h.top⟩

/-- A run of the list is written. -/
theorem RmIn.write {k : Nat} (h : RmIn p B w lv Ms dv st ds R) (hk : k < Ms.length) :
    ∃ g cap, lv = .slice (some ⟨g, 0, none⟩) Ms.length cap ∧ g < w.heap.size ∧ Ms.length ≤ cap ∧ cap ≤ 9223372036854775807 ∧ (∀ j, j < 8 → (∃ u, w.cell? ⟨g, k * 8 + j, none⟩ = some u) ∧ w.frozen? ⟨g, k * 8 + j, none⟩ = false) ∧
      ∀ y : MV, RmIn p B ((((((((w.setCell ⟨g, k * 8, none⟩ (.int .i64 y.m.num)).setCell ⟨g, k * 8 + 1, none⟩ (.int .i64 y.m.count)).setCell ⟨g, k * 8 + 2, none⟩ (.int .i64 y.m.index)).setCell ⟨g, k * 8 + 3, none⟩ (.int .i64 y.m.low)).setCell ⟨g, k * 8 + 4, none⟩ (.int .i64 y.m.clock)).setCell ⟨g, k * 8 + 5, none⟩ (.int .i64 y.m.bytes)).setCell ⟨g, k * 8 + 6, none⟩ y.f).setCell ⟨g, k * 8 + 7, none⟩ y.l) lv (Ms.set k y) dv st ds R ∧
        Upd (OutR p B) w ((((((((w.setCell ⟨g, k * 8, none⟩ (.int .i64 y.m.num)).setCell ⟨g, k * 8 + 1, none⟩ (.int .i64 y.m.count)).setCell ⟨g, k * 8 + 2, none⟩ (.int .i64 y.m.index)).setCell ⟨g, k * 8 + 3, none⟩ (.int .i64 y.m.low)).setCell ⟨g, k * 8 + 4, none⟩ (.int .i64 y.m.clock)).setCell ⟨g, k * 8 + 5, none⟩ (.int .i64 y.m.bytes)).setCell ⟨g, k * 8 + 6, none⟩ y.f).setCell ⟨g, k * 8 + 7, none⟩ y.l) := by
  obtain ⟨lab, hl⟩ := id h
  obtain ⟨g, cap, e, hg, h1, h2, h3, h4⟩ := row_set8 hl.row hk
  refine ⟨g, cap, e, hg, h1, h2, h3, fun y => ?_⟩
  have hgo : lv.ownBlock = some g := by rw [e]; rfl
  have hu : Upd (fun b => b = p ∨ lv.ownBlock = some b) w ((((((((w.setCell ⟨g, k * 8, none⟩ (.int .i64 y.m.num)).setCell ⟨g, k * 8 + 1, none⟩ (.int .i64 y.m.count)).setCell ⟨g, k * 8 + 2, none⟩ (.int .i64 y.m.index)).setCell ⟨g, k * 8 + 3, none⟩ (.int .i64 y.m.low)).setCell ⟨g, k * 8 + 4, none⟩ (.int .i64 y.m.clock)).setCell ⟨g, k * 8 + 5, none⟩ (.int .i64 y.m.bytes)).setCell ⟨g, k * 8 + 6, none⟩ y.f).setCell ⟨g, k * 8 + 7, none⟩ y.l) :=
    ((((((((Upd.refl _ w).setCell (p := ⟨g, k * 8, none⟩) (fun _ => .inr hgo) _).setCell (p := ⟨g, k * 8 + 1, none⟩) (fun _ => .inr hgo) _).setCell (p := ⟨g, k * 8 + 2, none⟩) (fun _ => .inr hgo) _).setCell (p := ⟨g, k * 8 + 3, none⟩) (fun _ => .inr hgo) _).setCell (p := ⟨g, k * 8 + 4, none⟩) (fun _ => .inr hgo) _).setCell (p := ⟨g, k * 8 + 5, none⟩) (fun _ => .inr hgo) _).setCell (p := ⟨g, k * 8 + 6, none⟩) (fun _ => .inr hgo) _).setCell (p := ⟨g, k * 8 + 7, none⟩) (fun _ => .inr hgo) _
  have hgp : p ≠ g := fun e2 => by have := (hl.lab1 g hgo).2; have := hl.hp; omega
  have hr := h4 (.int .i64 y.m.num) (.int .i64 y.m.count) (.int .i64 y.m.index) (.int .i64 y.m.low) (.int .i64 y.m.clock) (.int .i64 y.m.bytes) y.f y.l
  rw [flat_set8 hk y] at hr
  refine h.list hu ?_ (by rw [List.length_set]; exact hr) (fun b e => .inl e)
  rw [heap_setCell_ne _ _ _ _ hgp, heap_setCell_ne _ _ _ _ hgp, heap_setCell_ne _ _ _ _ hgp, heap_setCell_ne _ _ _ _ hgp, heap_setCell_ne _ _ _ _ hgp, heap_setCell_ne _ _ _ _ hgp, heap_setCell_ne _ _ _ _ hgp, heap_setCell_ne _ _ _ _ hgp]
  exact hl.top

def zeroMV : MV := ⟨zeroMeta, .slice none 0 0, .slice none 0 0⟩
theorem made_flat (M : Nat) : (madeCells #[.int .i64 0, .int .i64 0, .int .i64 0, .int .i64 0, .int .i64 0, .int .i64 0, .slice none 0 0, .slice none 0 0] (M * 8)).toList = (List.replicate M zeroMV).flatMap MV.cells := by
  apply List.ext_getElem?
  intro t
  by_cases ht : t < M * 8
  · have h8 : t % 8 < 8 := Nat.mod_lt _ (by decide)
    have hq : t / 8 < M := by omega
    have he : t = t / 8 * 8 + t % 8 := by omega
    have hf := flat_get MV.cells 8 (fun a => rfl) (List.replicate M zeroMV) (t / 8) (by simpa using hq) (t % 8) h8
    rw [← he, List.getElem_replicate] at hf
    rw [hf]
    simp only [madeCells, Array.toList_map, Array.toList_range, List.getElem?_map, List.getElem?_range ht, Option.map_some]
    generalize t % 8 = r at h8
    match r, h8 with
    | 0, _ => rfl
    | 1, _ => rfl
    | 2, _ => rfl
    | 3, _ => rfl
    | 4, _ => rfl
    | 5, _ => rfl
    | 6, _ => rfl
    | 7, _ => rfl
  · rw [List.getElem?_eq_none, List.getElem?_eq_none]
    · have : ((List.replicate M zeroMV).flatMap MV.cells).length = M * 8 := by
        clear ht
        induction M with
        | zero => rfl
        | succ M ih => rw [List.replicate_succ, List.flatMap_cons, List.length_append, ih]; simp [MV.cells]; omega
      omega
    · simp [madeCells]; omega

/-- The list is made anew. -/
theorem RmIn.made {M : Nat} (h : RmIn p B w lv Ms dv st ds R) (hM : 96 * M ≤ 281474976710656) :
    (Instr.makeSlice 23 (.int .i64 (M : Int)) (.int .i64 (M : Int))).run Tryz.prog w = .ok (.slice (some ⟨w.heap.size, 0, none⟩) M M) (w.alloc (.cells (madeCells #[.int .i64 0, .int .i64 0, .int .i64 0, .int .i64 0, .int .i64 0, .int .i64 0, .slice none 0 0, .slice none 0 0] (M * 8)) 48)) ∧
    RmIn p B ((w.setCell ⟨p, 0, none⟩ (.slice (some ⟨w.heap.size, 0, none⟩) M M)).alloc (.cells (madeCells #[.int .i64 0, .int .i64 0, .int .i64 0, .int .i64 0, .int .i64 0, .int .i64 0, .slice none 0 0, .slice none 0 0] (M * 8)) 48)) (.slice (some ⟨w.heap.size, 0, none⟩) M M) (List.replicate M zeroMV) dv st ds R ∧
    Upd (OutR p B) w ((w.setCell ⟨p, 0, none⟩ (.slice (some ⟨w.heap.size, 0, none⟩) M M)).alloc (.cells (madeCells #[.int .i64 0, .int .i64 0, .int .i64 0, .int .i64 0, .int .i64 0, .int .i64 0, .slice none 0 0, .slice none 0 0] (M * 8)) 48)) := by
  obtain ⟨i0, hi, hz0, hz1, hz2⟩ := info_parts Tryz.infoMeta
  obtain ⟨lab, hl⟩ := id h
  have hpw : p < w.heap.size := lt_of_heap hl.top
  constructor
  · have hr := run_make (P := Tryz.prog) w 23 48 i0 _ Tryz.underlying23 hi hz0 .i64 .i64 (M : Int) (M : Int) (by omega) (by omega) (by rw [hz2]; omega) (by omega)
    rw [hz1, Int.toNat_natCast] at hr
    exact hr
  · refine h.list (((Upd.refl _ w).setCell (p := ⟨p, 0, none⟩) (fun _ => .inl rfl) _).alloc _) ?_ ?_ (fun b e => .inr ?_)
    · rw [heap_alloc_past _ _ _ (by simpa using hpw)]
      have h1 := heap_setCell_at w p 0 _ _ (.slice (some ⟨w.heap.size, 0, none⟩) M M) hl.top
      simpa using h1
    · rw [List.length_replicate]
      refine ⟨?_, .inr ⟨w.heap.size, M, madeCells #[.int .i64 0, .int .i64 0, .int .i64 0, .int .i64 0, .int .i64 0, .int .i64 0, .slice none 0 0, .slice none 0 0] (M * 8), rfl, ?_, Nat.le_refl _, by unfold maxLen; omega, by rw [size_madeCells]; exact Nat.le_refl _, ?_⟩⟩
      · rw [← made_flat, Array.length_toList, size_madeCells]
      · have h1 := heap_alloc_new (w.setCell ⟨p, 0, none⟩ (.slice (some ⟨w.heap.size, 0, none⟩) M M)) (.cells (madeCells #[.int .i64 0, .int .i64 0, .int .i64 0, .int .i64 0, .int .i64 0, .int .i64 0, .slice none 0 0, .slice none 0 0] (M * 8)) 48)
        rw [World.size_setCell] at h1
        exact h1
      · rw [← made_flat, List.take_of_length_le (by rw [Array.length_toList, size_madeCells]; exact Nat.le_refl _)]
    · have e' : w.heap.size = b := Option.some.inj e
      omega

/-- One more desk joins. -/
theorem RmIn.push1 (h : RmIn p B w lv Ms dv st ds R) (hn : ds.length ≤ 4000000000000) :
    ∃ ao cap w2, (Builtin.append_ #[57, 57] 57 #[dv, .slice (some ⟨w.heap.size + 1, 0, none⟩) 1 1]).run Tryz.prog ((w.alloc (.cells #[.slice none 0 0, .int .i64 0] 62)).alloc (.cells #[.pointer (some ⟨w.heap.size, 0, none⟩)] 56)) = .ok (.slice ao (ds.length + 1) cap) w2 ∧
      (w2.cell? ⟨p, 2, none⟩ = some dv ∧ w2.frozen? ⟨p, 2, none⟩ = false ∧ p < w2.heap.size) ∧
      RmIn p B (w2.setCell ⟨p, 2, none⟩ (.slice ao (ds.length + 1) cap)) lv Ms (.slice ao (ds.length + 1) cap) st (ds ++ [⟨w.heap.size, .slice none 0 0, [], 0⟩]) R ∧ Upd (OutR p B) w (w2.setCell ⟨p, 2, none⟩ (.slice ao (ds.length + 1) cap)) := by
  obtain ⟨lab, hl⟩ := id h
  have hpw : p < w.heap.size := lt_of_heap hl.top
  have hpd : ¬ dv.ownBlock = some p := fun e => by have := (hl.lab2 p e).2; have := hl.hp; omega
  have hu1 : Upd (fun _ => False) w (w.alloc (.cells #[.slice none 0 0, .int .i64 0] 62)) := (Upd.refl _ _).alloc _
  have hu2 : Upd (fun _ => False) w ((w.alloc (.cells #[.slice none 0 0, .int .i64 0] 62)).alloc (.cells #[.pointer (some ⟨w.heap.size, 0, none⟩)] 56)) := hu1.alloc _
  have hd2 := SRow.upd hl.dsk hu2 (fun _ _ e => e)
  have hnc := new_cells (w.alloc (.cells #[.slice none 0 0, .int .i64 0] 62)) 56 [.pointer (some ⟨w.heap.size, 0, none⟩)]
  rw [show (w.alloc (.cells #[.slice none 0 0, .int .i64 0] 62)).heap.size = w.heap.size + 1 from by simp] at hnc
  obtain ⟨v', w2, hrun, hrow, hu, ho, hor⟩ := rowDesk.more2 hd2 ⟨w.heap.size + 1, 0, none⟩ 1 1 [.pointer (some ⟨w.heap.size, 0, none⟩)] rfl hnc (by simp [Value.oneCell']) (by omega) (by omega) 57
  obtain ⟨ao, cap, rfl, -⟩ := hrow.slice
  have hs2 : ((w.alloc (.cells #[.slice none 0 0, .int .i64 0] 62)).alloc (.cells #[.pointer (some ⟨w.heap.size, 0, none⟩)] 56)).heap.size = w.heap.size + 2 := by simp
  have hut : Upd (fun b => dv.ownBlock = some b) w w2 := (hu2.mono (fun _ _ e => e.elim)).trans hu (fun _ _ e => e)
  have htop2 := hut.get hl.top hpd
  have hdb : dv.ownBlock ≠ some w.heap.size := fun e => by have := hl.dsk.lt _ e; omega
  have hk1 : w2.heap[w.heap.size]? = some (.cells #[.slice none 0 0, .int .i64 0] 62 (0, 0)) := by
    refine hu.get ?_ hdb
    rw [heap_alloc_past _ _ _ (by simp)]
    exact heap_alloc_new _ _
  refine ⟨ao, cap, w2, hrun, ⟨cell_of_row _ _ 2 _ _ _ htop2, frozen_of_row _ _ _ _ _ htop2, lt_of_heap htop2⟩, ?_⟩
  have hus : Upd (fun b => b = p ∨ dv.ownBlock = some b) w (w2.setCell ⟨p, 2, none⟩ (.slice ao (ds.length + 1) cap)) := (hut.mono (fun _ _ e => .inr e)).setCell (p := ⟨p, 2, none⟩) (fun _ => .inl rfl) _
  have hown : ∀ b, (Value.slice ao (ds.length + 1) cap).ownBlock = some b → dv.ownBlock = some b ∨ (w.heap.size + 2 ≤ b) := fun b e => by
    have := ho b e
    rw [hs2] at this
    exact this
  refine h.more (k := ⟨w.heap.size, .slice none 0 0, [], 0⟩) hus ?_ ?_ (fun b e => (hown b e).imp id (fun e => ⟨by omega, fun e2 => by simp only at e2; omega⟩)) ⟨?_, .inl ⟨rfl, rfl⟩, (fun e => by cases e), by simp, by simp⟩ (Nat.le_refl _) (fun b e => e.elim id (fun e => by cases e))
  · have h1 := heap_setCell_at w2 p 2 _ _ (.slice ao (ds.length + 1) cap) htop2
    simpa using h1
  · refine SRow.upd (S := fun b => b = p) hrow (Upd.cell_only _ _ _ _) (fun b e e2 => ?_)
    subst e2
    rcases hown b e with e3 | e3
    · exact hpd e3
    · omega
  · rw [heap_setCell_ne _ _ _ _ (by simp only; omega)]
    exact hk1

theorem RmIn.stamp (h : RmIn p B w lv Ms dv none ds R) :
    RmIn p B ((w.setCell ⟨p, 1, none⟩ (.pointer (some ⟨w.heap.size, 0, none⟩))).alloc (.cells #[.slice none 0 0, .int .i64 0] 62)) lv Ms dv (some ⟨w.heap.size, .slice none 0 0, [], 0⟩) ds R ∧
      Upd (OutR p B) w ((w.setCell ⟨p, 1, none⟩ (.pointer (some ⟨w.heap.size, 0, none⟩))).alloc (.cells #[.slice none 0 0, .int .i64 0] 62)) := by
  obtain ⟨lab, hl⟩ := id h
  have hpw : p < w.heap.size := lt_of_heap hl.top
  refine h.newState (k := ⟨w.heap.size, .slice none 0 0, [], 0⟩) (((Upd.refl (fun b => b = p) w).setCell (p := ⟨p, 1, none⟩) (fun _ => rfl) _).alloc _) ?_ ⟨?_, .inl ⟨rfl, rfl⟩, (fun e => by cases e), by simp, by simp⟩ (fun b e => e.elim (fun e => by simp only at e; omega) (fun e => by cases e))
  · rw [heap_alloc_past _ _ _ (by simpa using hpw)]
    have h1 := heap_setCell_at w p 1 _ _ (.pointer (some ⟨w.heap.size, 0, none⟩)) hl.top
    simpa using h1
  · have h1 := heap_alloc_new (w.setCell ⟨p, 1, none⟩ (.pointer (some ⟨w.heap.size, 0, none⟩))) (.cells #[.slice none 0 0, .int .i64 0] 62)
    rw [World.size_setCell] at h1
    exact h1
end

end Go.Proofs.YtgaidmohdhaonaaGreatDoor
