/-
  A list of runs of a call's own; a version in a box.
  Package manifest: what Decode's reader does, step by step.
  Package manifest, walked: Decode.
  What both Decodes answer; how the runs are read.
-/
import Derived.Test.YtgaidmohdhaonaaGreatDoorYE
import Derived.Deep.AppendLies
import Derived.Test.YtgaidmohdhaonaaGreatDoorYG
import Derived.Laws.ResultCell
import Derived.Lib.SlBytesConst
namespace Go.Proofs.YtgaidmohdhaonaaGreatDoor
set_option linter.unusedVariables false
set_option linter.unusedSimpArgs false
set_option linter.unnecessarySimpa false
set_option linter.unusedSectionVars false
open Go Go.RowKit

theorem flat_get {α β : Type} (f : α → List β) (m : Nat) (hm : ∀ a, (f a).length = m) : ∀ (l : List α) (k : Nat) (hk : k < l.length) (j : Nat), j < m → (l.flatMap f)[k * m + j]? = (f l[k])[j]?
  | [], k, hk, j, hj => absurd hk (by simp)
  | a :: l, 0, hk, j, hj => by
    rw [List.flatMap_cons, Nat.zero_mul, Nat.zero_add, List.getElem?_append_left (by rw [hm]; exact hj)]
    rfl
  | a :: l, k + 1, hk, j, hj => by
    rw [List.flatMap_cons, List.getElem?_append_right (by rw [hm, Nat.succ_mul]; omega), hm, show (k + 1) * m + j - m = k * m + j from by rw [Nat.succ_mul]; omega]
    rw [flat_get f m hm l k (by simpa using hk) j hj]
    rfl

/-- A run that was read, with the slices of its keys. -/
structure MV where
  m : MetaA
  f : Value
  l : Value
def MV.cells (x : MV) : List Value := [.int .i64 x.m.num, .int .i64 x.m.count, .int .i64 x.m.index, .int .i64 x.m.low, .int .i64 x.m.clock, .int .i64 x.m.bytes, x.f, x.l]

structure RunsOwn (W : World) (base : Nat) (v : Value) (L : List MV) : Prop where
  row : W.ownsRow base 48 8 v L.length (L.flatMap MV.cells)
  data : ∀ x ∈ L, DataIs W x.f x.m.first ∧ DataIs W x.l x.m.last

/-- What has turned is no row of bytes. -/
theorem DataIs.keepT {S : Nat → Prop} {w w' : World} {v : Value} {bs : List UInt8} (h : DataIs w v bs) (hu : Upd S w w') (hS : ∀ k, S k → ∀ cur fr, w.heap[k]? ≠ some (.cells cur 5 fr)) : DataIs w' v bs := by
  rcases h with ⟨rfl, rfl⟩ | ⟨g, cap, cur, rfl, hg, h1, h2, h3, h4⟩
  · exact .inl ⟨rfl, rfl⟩
  · exact .inr ⟨g, cap, cur, rfl, hu.get hg (fun e => hS g e _ _ hg), h1, h2, h3, h4⟩

theorem RunsOwn.keepT {S : Nat → Prop} {w w' : World} {base : Nat} {v : Value} {L : List MV} (h : RunsOwn w base v L) (hu : Upd S w w') (hS : ∀ k, S k → ∀ cur fr, w.heap[k]? ≠ some (.cells cur 5 fr) ∧ w.heap[k]? ≠ some (.cells cur 48 fr)) : RunsOwn w' base v L := by
  refine ⟨?_, fun x hx => ⟨(h.data x hx).1.keepT hu (fun k e cur fr => (hS k e cur fr).1), (h.data x hx).2.keepT hu (fun k e cur fr => (hS k e cur fr).1)⟩⟩
  obtain ⟨hl, h⟩ := h.row
  refine ⟨hl, ?_⟩
  rcases h with ⟨rfl, h0⟩ | ⟨g, cap, cur, rfl, hb, hg, h2, h3, h4, h5⟩
  · exact .inl ⟨rfl, h0⟩
  · exact .inr ⟨g, cap, cur, rfl, hb, hu.get hg (fun e => (hS g e _ _).2 hg), h2, h3, h4, h5⟩

theorem RunsOwn.nil (W : World) (base : Nat) : RunsOwn W base (.slice none 0 0) [] := ⟨World.ownsRow_nil _ _ _ _, by simp⟩

theorem RunsOwn.slice {W : World} {base : Nat} {v : Value} {L : List MV} (h : RunsOwn W base v L) : ∃ ao cap, v = .slice ao L.length cap := by
  obtain ⟨hl, h⟩ := h.row
  rcases h with ⟨rfl, h0⟩ | ⟨g, cap, cur, rfl, hb, hg, h2, h3, h4, h5⟩
  · exact ⟨none, 0, by rw [h0]⟩
  · exact ⟨_, cap, rfl⟩

theorem RunsOwn.at {W : World} {base : Nat} {v : Value} {L : List MV} (h : RunsOwn W base v L) : RunsAt W v (L.map MV.m) := by
  obtain ⟨hl, hr⟩ := h.row
  rcases hr with ⟨rfl, h0⟩ | ⟨g, cap, cur, rfl, hb, hg, h2, h3, h4, h5⟩
  · have : L = [] := List.length_eq_zero_iff.1 h0
    subst this
    exact ⟨none, 0, rfl, by simp, by simp, fun k hk => by simp at hk⟩
  · refine ⟨some ⟨g, 0, none⟩, cap, by simp, by simpa using h2, by simpa [maxLen] using h3, fun k hk => ?_⟩
    have hk' : k < L.length := by simpa using hk
    have hd := h.data L[k] (List.getElem_mem hk')
    have hc : ∀ j, j < 8 → W.cell? ⟨g, k * 8 + j, none⟩ = (MV.cells L[k])[j]? := by
      intro j hj
      have h6 := flat_get MV.cells 8 (fun _ => rfl) L k hk' j hj
      rw [← h5, List.getElem?_take, if_pos (by omega)] at h6
      rw [cell_of_row W g _ cur _ _ hg, ← Array.getElem?_toList]
      exact h6
    obtain ⟨a1, c1, e1, -⟩ := hd.1.bat
    obtain ⟨a2, c2, e2, -⟩ := hd.2.bat
    refine ⟨g, 0, a1, c1, a2, c2, rfl, lt_of_heap hg, ?_, ?_, ?_, ?_, ?_, ?_, ?_, ?_, ?_, ?_⟩
    · have h0 := hc 0 (by omega)
      rw [Nat.add_zero] at h0
      rw [Nat.zero_add, h0]; simp [MV.cells]
    · rw [Nat.zero_add, hc 1 (by omega)]; simp [MV.cells]
    · rw [Nat.zero_add, hc 2 (by omega)]; simp [MV.cells]
    · rw [Nat.zero_add, hc 3 (by omega)]; simp [MV.cells]
    · rw [Nat.zero_add, hc 4 (by omega)]; simp [MV.cells]
    · rw [Nat.zero_add, hc 5 (by omega)]; simp [MV.cells]
    · rw [Nat.zero_add, hc 6 (by omega)]; simpa [MV.cells] using e1
    · rw [Nat.zero_add, hc 7 (by omega)]; simpa [MV.cells] using e2
    · rw [List.getElem_map]; rw [← e1]; exact hd.1.bat
    · rw [List.getElem_map]; rw [← e2]; exact hd.2.bat

theorem Tryz.infoMeta : (Tryz.prog.info? 48).map (fun i => (i.zero, i.size, i.bytes)) = some (some (.agg #[.int .i64 0, .int .i64 0, .int .i64 0, .int .i64 0, .int .i64 0, .int .i64 0, .slice none 0 0, .slice none 0 0]), 8, 96) := by kernel_rfl

/-- One run is appended. -/
theorem RunsOwn.push {W W1 : World} {base : Nat} {v : Value} {L : List MV} (h : RunsOwn W base v L) (x : MV) (hf : DataIs W x.f x.m.first) (hl : DataIs W x.l x.m.last) (hb : base ≤ W.heap.size) (hn : L.length ≤ 1000000) (hW : W1 = W.alloc (.cells x.cells.toArray 48)) :
    ∃ ao cap w2, (Builtin.append_ #[23, 23] 23 #[v, .slice (some ⟨W.heap.size, 0, none⟩) 1 1]).run Tryz.prog W1 = .ok (.slice ao (L.length + 1) cap) w2 ∧ RunsOwn w2 base (.slice ao (L.length + 1) cap) (L ++ [x]) ∧ Upd (fun k => v.ownBlock = some k) W w2 := by
  obtain ⟨i0, hi, hz0, hz1, hz2⟩ := info_parts Tryz.infoMeta
  obtain ⟨a1, c1, e1, -⟩ := hf.bat
  obtain ⟨a2, c2, e2, -⟩ := hl.bat
  have hu : Upd (fun _ => False) W W1 := by rw [hW]; exact (Upd.refl _ _).alloc _
  have hrow1 := owns_upd h.row hu (fun _ _ e => e)
  have hblk : W1.heap[W.heap.size]? = some (.cells x.cells.toArray 48 (0, 0)) := by rw [hW]; exact heap_alloc_new _ _
  obtain ⟨v', w2, hr, hown, hg, -⟩ := run_append_own (P := Tryz.prog) W1 base 23 23 48 i0 _ 8 96 Tryz.underlying23 hi hz0 hz1 hz2 rfl (by decide) v L.length _ hrow1 ⟨W.heap.size, 0, none⟩ 1 1 x.cells rfl
    (World.news_of_block (cs := x.cells.toArray) hblk) (by intro u hu; simp only [MV.cells, List.mem_cons, List.not_mem_nil, or_false] at hu; rcases hu with rfl | rfl | rfl | rfl | rfl | rfl | rfl | rfl <;> first | rfl | (rw [e1]; rfl) | (rw [e2]; rfl)) (by unfold maxLen; omega) (by omega) (Nat.le_trans hb hu.size)
  have hup : Upd (fun k => v.ownBlock = some k) W w2 := (hu.mono (fun _ _ e => e.elim)).grown hg (fun k hk _ => hk)
  have hT : ∀ k, v.ownBlock = some k → ∀ cur fr, W.heap[k]? ≠ some (.cells cur 5 fr) := by
    intro k hk cur fr hh
    obtain ⟨-, hh2⟩ := h.row
    rcases hh2 with ⟨rfl, -⟩ | ⟨g, cap, cur', rfl, -, hg', -⟩
    · cases hk
    · simp only [Value.ownBlock, Option.some.injEq] at hk
      subst hk
      rw [hg'] at hh
      injection hh with hh
      injection hh with _ hh
      exact absurd hh (by decide)
  have hro : RunsOwn w2 base v' (L ++ [x]) := by
    refine ⟨by simpa using hown, fun y hy => ?_⟩
    rcases List.mem_append.1 hy with hy | hy
    · exact ⟨(h.data y hy).1.keepT hup hT, (h.data y hy).2.keepT hup hT⟩
    · rw [List.mem_singleton] at hy
      subst hy
      exact ⟨hf.keepT hup hT, hl.keepT hup hT⟩
  obtain ⟨ao, cap, hv'⟩ := hro.slice
  rw [List.length_append, List.length_singleton] at hv'
  subst hv'
  exact ⟨ao, cap, w2, hr, hro, hup⟩

end Go.Proofs.YtgaidmohdhaonaaGreatDoor

namespace Go.Proofs.YtgaidmohdhaonaaGreatDoor
set_option linter.unusedVariables false
set_option linter.unusedSimpArgs false
set_option linter.unnecessarySimpa false
set_option linter.unusedSectionVars false
open Go Go.RowKit

/-- The cells of a version's box. -/
abbrev verC (a1 a2 a3 a4 a5 : Int) (st rs : Value) : Array Value := #[.int .i64 a1, .int .i64 a2, .int .i64 a3, .int .i64 a4, .int .i64 a5, st, rs]

theorem results_ver {fn : Func} {p u : Tmp} (h : fn.results = #[.cell p 25, .tmp u]) (tmps : Array Value) (w : World) (g : Nat) (cs : Array Value) (hsz : cs.size = 7)
    (hp : tmps.getD p undef = .pointer (some ⟨g, 0, none⟩)) (hg : w.heap[g]? = some (.cells cs 25 (0, 0))) :
    (results fn tmps).run Tryz.prog w = .ok (.tuple #[.agg cs, tmps.getD u undef]) w := by
  rw [results_cell_tmp h, hp]
  have hl := run_loadVar_row (P := Tryz.prog) w g 25 25 cs (0, 0) _ hg Tryz.underlying25 rfl (by rw [hsz]; kernel_rfl)
  simp [asAddr, Result.andThen, hl]

/-- The seven stores into a version's box. -/
abbrev verOut (W : World) (p : Nat) (a1 a2 a3 a4 a5 : Int) (st rs : Value) : World :=
  (((((((W.setCell ⟨p, 0, none⟩ (.int .i64 a1)).setCell ⟨p, 1, none⟩ (.int .i64 a2)).setCell ⟨p, 2, none⟩ (.int .i64 a3)).setCell ⟨p, 3, none⟩ (.int .i64 a4)).setCell ⟨p, 4, none⟩ (.int .i64 a5)).setCell ⟨p, 5, none⟩ st).setCell ⟨p, 6, none⟩ rs)

theorem verOut_at {W : World} {p : Nat} {b1 b2 b3 b4 b5 : Int} {st0 rs0 : Value} (h : W.heap[p]? = some (.cells (verC b1 b2 b3 b4 b5 st0 rs0) 25 (0, 0))) (a1 a2 a3 a4 a5 : Int) (st rs : Value) :
    (verOut W p a1 a2 a3 a4 a5 st rs).heap[p]? = some (.cells (verC a1 a2 a3 a4 a5 st rs) 25 (0, 0)) := by
  have h1 := heap_setCell_at W p 0 _ _ (.int .i64 a1) h
  have h2 := heap_setCell_at _ p 1 _ _ (.int .i64 a2) h1
  have h3 := heap_setCell_at _ p 2 _ _ (.int .i64 a3) h2
  have h4 := heap_setCell_at _ p 3 _ _ (.int .i64 a4) h3
  have h5 := heap_setCell_at _ p 4 _ _ (.int .i64 a5) h4
  have h6 := heap_setCell_at _ p 5 _ _ st h5
  have h7 := heap_setCell_at _ p 6 _ _ rs h6
  rw [h7]
  simp [verC]

theorem verOut_upd {S : Nat → Prop} {w W : World} (h : Upd S w W) {p : Nat} (hp : p < w.heap.size → S p) (a1 a2 a3 a4 a5 : Int) (st rs : Value) : Upd S w (verOut W p a1 a2 a3 a4 a5 st rs) := by
  have hp' : ∀ j : Nat, (⟨p, j, none⟩ : Addr).block < w.heap.size → S (⟨p, j, none⟩ : Addr).block := fun j e => hp e
  exact ((((((h.setCell (hp' 0) _).setCell (hp' 1) _).setCell (hp' 2) _).setCell (hp' 3) _).setCell (hp' 4) _).setCell (hp' 5) _).setCell (hp' 6) _

theorem verCells {W : World} {p : Nat} {x0 x1 x2 x3 x4 x5 x6 : Value} (h : W.heap[p]? = some (.cells #[x0, x1, x2, x3, x4, x5, x6] 25 (0, 0))) :
    (W.cell? ⟨p, 0, none⟩ = some x0 ∧ W.cell? ⟨p, 1, none⟩ = some x1 ∧ W.cell? ⟨p, 2, none⟩ = some x2 ∧ W.cell? ⟨p, 3, none⟩ = some x3 ∧ W.cell? ⟨p, 4, none⟩ = some x4 ∧ W.cell? ⟨p, 5, none⟩ = some x5 ∧ W.cell? ⟨p, 6, none⟩ = some x6) ∧
    (W.frozen? ⟨p, 0, none⟩ = false ∧ W.frozen? ⟨p, 1, none⟩ = false ∧ W.frozen? ⟨p, 2, none⟩ = false ∧ W.frozen? ⟨p, 3, none⟩ = false ∧ W.frozen? ⟨p, 4, none⟩ = false ∧ W.frozen? ⟨p, 5, none⟩ = false ∧ W.frozen? ⟨p, 6, none⟩ = false) ∧ p < W.heap.size :=
  ⟨⟨cell_of_row _ _ 0 _ _ _ h, cell_of_row _ _ 1 _ _ _ h, cell_of_row _ _ 2 _ _ _ h, cell_of_row _ _ 3 _ _ _ h, cell_of_row _ _ 4 _ _ _ h, cell_of_row _ _ 5 _ _ _ h, cell_of_row _ _ 6 _ _ _ h⟩,
   ⟨frozen_of_row _ _ _ _ _ h, frozen_of_row _ _ _ _ _ h, frozen_of_row _ _ _ _ _ h, frozen_of_row _ _ _ _ _ h, frozen_of_row _ _ _ _ _ h, frozen_of_row _ _ _ _ _ h, frozen_of_row _ _ _ _ _ h⟩, lt_of_heap h⟩

theorem not_ty {w : World} {p : Nat} {cs : Array Value} {t u : TypeId} {fr : Nat × Nat} (h : w.heap[p]? = some (.cells cs t fr)) (hne : t ≠ u) : ∀ cur fr', w.heap[p]? ≠ some (.cells cur u fr') := by
  intro cur fr' e
  rw [h] at e
  injection e with e
  injection e with _ e
  exact hne e

/-- A reader in a call's own memory, with the box of the call's result. -/
structure RdS (w W : World) (p2 p7 : Nat) (g : Option Addr) (c : Nat) (B : List UInt8) (s : RdA) : Prop where
  upd : Upd (fun _ => False) w W
  b2 : W.heap[p2]? = some (.cells (verC 0 0 0 0 0 (.slice none 0 0) (.slice none 0 0)) 25 (0, 0))
  rd : RdAt W p7 (.slice g B.length c) s
  bb : DataIs W (.slice g B.length c) B
  lt : s.at' ≤ B.length
  n2 : w.heap.size ≤ p2
  n7 : w.heap.size ≤ p7
  hl : B.length ≤ 1048576

theorem RdS.ty {w W : World} {p2 p7 : Nat} {g : Option Addr} {c : Nat} {B : List UInt8} {s : RdA} (h : RdS w W p2 p7 g c B s) : ∀ k, k = p7 → ∀ cur fr, W.heap[k]? ≠ some (.cells cur 5 fr) ∧ W.heap[k]? ≠ some (.cells cur 48 fr) := by
  rintro k rfl cur fr
  exact ⟨not_ty h.rd (by decide) cur fr, not_ty h.rd (by decide) cur fr⟩
theorem RdS.ne {w W : World} {p2 p7 : Nat} {g : Option Addr} {c : Nat} {B : List UInt8} {s : RdA} (h : RdS w W p2 p7 g c B s) : p2 ≠ p7 := by
  rintro rfl
  exact not_ty h.b2 (by decide) _ _ h.rd

theorem RdS.turn {w W W1 : World} {p2 p7 : Nat} {g : Option Addr} {c : Nat} {B : List UInt8} {s s' : RdA} (h : RdS w W p2 p7 g c B s) (hu : Upd (fun k => k = p7) W W1) (hr : RdAt W1 p7 (.slice g B.length c) s') (ha : s'.at' ≤ B.length) : RdS w W1 p2 p7 g c B s' :=
  ⟨h.upd.trans hu (fun k hk e => by have := h.n7; omega), hu.get h.b2 (fun e => h.ne e), hr, h.bb.keepT hu (fun k e cur fr => (h.ty k e cur fr).1), ha, h.n2, h.n7, h.hl⟩

theorem RdS.keep {w W W1 : World} {p2 p7 : Nat} {g : Option Addr} {c : Nat} {B : List UInt8} {s : RdA} (h : RdS w W p2 p7 g c B s) (hu : Upd (fun _ => False) W W1) : RdS w W1 p2 p7 g c B s :=
  ⟨h.upd.trans hu (fun _ _ e => e), hu.get h.b2 (fun e => e), h.rd.keep hu, h.bb.upd hu (fun _ _ e => e), h.lt, h.n2, h.n7, h.hl⟩

theorem RdS.num {w W : World} {p2 p7 : Nat} {g : Option Addr} {c : Nat} {B : List UInt8} {s s' : RdA} {n : Int} (h : RdS w W p2 p7 g c B s) (hr : rdN B s = (n, s')) :
    Calls Tryz.prog 74 #[.pointer (some ⟨p7, 0, none⟩)] W fun e W1 => e = .returned (.int .i64 n) ∧ RdS w W1 p2 p7 g c B s' ∧ Upd (fun k => k = p7) W W1 := by
  refine (num_any h.rd h.bb.bat h.lt (by have := h.hl; omega)).mono ?_
  rintro e W1 ⟨rfl, h1, h2⟩
  have ha := rdN_at h.lt
  rw [hr] at h1 ha ⊢
  exact ⟨rfl, h.turn h2 h1 ha, h2⟩

theorem RdS.bytes {w W : World} {p2 p7 : Nat} {g : Option Addr} {c : Nat} {B l : List UInt8} {s s' : RdA} {most : Nat} (h : RdS w W p2 p7 g c B s) (hm : most ≤ 140737488351232) (hr : rdB B most s = (l, s')) :
    Calls Tryz.prog 75 #[.pointer (some ⟨p7, 0, none⟩), .int .i64 most] W fun e W1 => ∃ v, e = .returned v ∧ RdS w W1 p2 p7 g c B s' ∧ Upd (fun k => k = p7) W W1 ∧ DataIs W1 v l ∧ ∀ k, v.ownBlock = some k → W.heap.size ≤ k := by
  refine (rbytes_any h.rd h.bb.bat h.lt (by have := h.hl; omega) hm).mono ?_
  rintro e W1 ⟨v, rfl, h1, h2, h3, h4⟩
  have ha := rdB_at (m := most) h.lt
  rw [hr] at h1 ha h3
  exact ⟨v, rfl, h.turn h2 h1 ha, h2, h3, h4⟩

/-- The blocks of the keys of runs. -/
def keyBlocks (L : List MV) : List Nat := L.flatMap fun y => y.f.ownBlock.toList ++ y.l.ownBlock.toList

theorem own_one {v : Value} {n : Nat} (h : ∀ k, v.ownBlock = some k → n ≤ k) : (v.ownBlock.toList ++ keyBlocks []).Nodup ∧ ∀ k ∈ v.ownBlock.toList ++ keyBlocks [], n ≤ k := by
  rw [show keyBlocks [] = [] from rfl, List.append_nil]
  refine ⟨by cases v.ownBlock <;> simp, fun k hk => h k (by simpa using hk)⟩

/-- The version that is read, in its box. -/
structure DecS (w W : World) (p2 p7 p8 : Nat) (g : Option Addr) (c : Nat) (B : List UInt8) (a1 a2 a3 a4 a5 : Int) (sv rs : Value) (S : List UInt8) (L : List MV) (s : RdA) : Prop where
  r : RdS w W p2 p7 g c B s
  b8 : W.heap[p8]? = some (.cells (verC a1 a2 a3 a4 a5 sv rs) 25 (0, 0))
  ne : p8 ≠ p2
  n8 : w.heap.size ≤ p8
  st : DataIs W sv S
  runs : RunsOwn W w.heap.size rs L
  ks : ∀ x ∈ L, x.m.first.length ≤ 1048576 ∧ x.m.last.length ≤ 1048576
  own : (sv.ownBlock.toList ++ keyBlocks L).Nodup ∧ ∀ k ∈ sv.ownBlock.toList ++ keyBlocks L, w.heap.size ≤ k

/-- A block that is new is none of them. -/
theorem DecS.fresh {w W : World} {p2 p7 p8 : Nat} {g : Option Addr} {c : Nat} {B S : List UInt8} {a1 a2 a3 a4 a5 : Int} {st rs : Value} {L : List MV} {s : RdA} (h : DecS w W p2 p7 p8 g c B a1 a2 a3 a4 a5 st rs S L s) {k : Nat} (hk : W.heap.size ≤ k) : w.heap.size ≤ k ∧ k ∉ st.ownBlock.toList ++ keyBlocks L := by
  refine ⟨Nat.le_trans h.r.upd.size hk, fun e => ?_⟩
  have hlt : k < W.heap.size := by
    rcases List.mem_append.1 e with e | e
    · exact h.st.lt k (by simpa using e)
    · obtain ⟨y, hy, e⟩ := List.mem_flatMap.1 e
      rcases List.mem_append.1 e with e | e
      · exact (h.runs.data y hy).1.lt k (by simpa using e)
      · exact (h.runs.data y hy).2.lt k (by simpa using e)
  omega

theorem DecS.ne7 {w W : World} {p2 p7 p8 : Nat} {g : Option Addr} {c : Nat} {B S : List UInt8} {a1 a2 a3 a4 a5 : Int} {st rs : Value} {L : List MV} {s : RdA} (h : DecS w W p2 p7 p8 g c B a1 a2 a3 a4 a5 st rs S L s) : p8 ≠ p7 := by
  rintro rfl
  exact not_ty h.b8 (by decide) _ _ h.r.rd

theorem DecS.turn {w W W1 : World} {p2 p7 p8 : Nat} {g : Option Addr} {c : Nat} {B S : List UInt8} {a1 a2 a3 a4 a5 : Int} {st rs : Value} {L : List MV} {s s' : RdA} (h : DecS w W p2 p7 p8 g c B a1 a2 a3 a4 a5 st rs S L s) (hu : Upd (fun k => k = p7) W W1) (hr : RdS w W1 p2 p7 g c B s') : DecS w W1 p2 p7 p8 g c B a1 a2 a3 a4 a5 st rs S L s' :=
  ⟨hr, hu.get h.b8 (fun e => h.ne7 e), h.ne, h.n8, h.st.keepT hu (fun k e cur fr => (h.r.ty k e cur fr).1), h.runs.keepT hu h.r.ty, h.ks, h.own⟩

theorem DecS.keep {w W W1 : World} {p2 p7 p8 : Nat} {g : Option Addr} {c : Nat} {B S : List UInt8} {a1 a2 a3 a4 a5 : Int} {st rs : Value} {L : List MV} {s : RdA} (h : DecS w W p2 p7 p8 g c B a1 a2 a3 a4 a5 st rs S L s) (hu : Upd (fun _ => False) W W1) : DecS w W1 p2 p7 p8 g c B a1 a2 a3 a4 a5 st rs S L s :=
  ⟨h.r.keep hu, hu.get h.b8 (fun e => e), h.ne, h.n8, h.st.upd hu (fun _ _ e => e), h.runs.keepT hu (fun _ e => e.elim), h.ks, h.own⟩

theorem DecS.num {w W : World} {p2 p7 p8 : Nat} {g : Option Addr} {c : Nat} {B S : List UInt8} {a1 a2 a3 a4 a5 : Int} {st rs : Value} {L : List MV} {s s' : RdA} {n : Int} (h : DecS w W p2 p7 p8 g c B a1 a2 a3 a4 a5 st rs S L s) (hr : rdN B s = (n, s')) :
    Calls Tryz.prog 74 #[.pointer (some ⟨p7, 0, none⟩)] W fun e W1 => e = .returned (.int .i64 n) ∧ DecS w W1 p2 p7 p8 g c B a1 a2 a3 a4 a5 st rs S L s' ∧ Upd (fun k => k = p7) W W1 :=
  (h.r.num hr).mono fun e W1 ⟨h1, h2, h3⟩ => ⟨h1, h.turn h3 h2, h3⟩

theorem DecS.bytes {w W : World} {p2 p7 p8 : Nat} {g : Option Addr} {c : Nat} {B S l : List UInt8} {a1 a2 a3 a4 a5 : Int} {st rs : Value} {L : List MV} {s s' : RdA} {most : Nat} (h : DecS w W p2 p7 p8 g c B a1 a2 a3 a4 a5 st rs S L s) (hm : most ≤ 140737488351232) (hr : rdB B most s = (l, s')) :
    Calls Tryz.prog 75 #[.pointer (some ⟨p7, 0, none⟩), .int .i64 most] W fun e W1 => ∃ v, e = .returned v ∧ DecS w W1 p2 p7 p8 g c B a1 a2 a3 a4 a5 st rs S L s' ∧ Upd (fun k => k = p7) W W1 ∧ DataIs W1 v l ∧ ∀ k, v.ownBlock = some k → W.heap.size ≤ k :=
  (h.r.bytes hm hr).mono fun e W1 ⟨v, h1, h2, h3, h4, h5⟩ => ⟨v, h1, h.turn h3 h2, h3, h4, h5⟩

/-- A run has joined the version. -/
theorem DecS.join {w W w2 : World} {p2 p7 p8 : Nat} {g : Option Addr} {c : Nat} {B S : List UInt8} {a1 a2 a3 a4 a5 : Int} {st rs rs' : Value} {L : List MV} {s : RdA} {x : MV} (h : DecS w W p2 p7 p8 g c B a1 a2 a3 a4 a5 st rs S L s)
    (hro : RunsOwn w2 w.heap.size rs' (L ++ [x])) (hu : Upd (fun k => rs.ownBlock = some k) W w2) (hk : x.m.first.length ≤ 1048576 ∧ x.m.last.length ≤ 1048576)
    (hf1 : ∀ k, x.f.ownBlock = some k → w.heap.size ≤ k ∧ k ∉ st.ownBlock.toList ++ keyBlocks L) (hf2 : ∀ k, x.l.ownBlock = some k → w.heap.size ≤ k ∧ k ∉ st.ownBlock.toList ++ keyBlocks L) (hf3 : ∀ k, x.f.ownBlock = some k → x.l.ownBlock ≠ some k) :
    w2.heap[p8]? = some (.cells (verC a1 a2 a3 a4 a5 st rs) 25 (0, 0)) ∧ DecS w (w2.setCell ⟨p8, 6, none⟩ rs') p2 p7 p8 g c B a1 a2 a3 a4 a5 st rs' S (L ++ [x]) s := by
  have hty : ∀ k, rs.ownBlock = some k → ∃ cur, W.heap[k]? = some (.cells cur 48 (0, 0)) ∧ w.heap.size ≤ k := by
    intro k hk
    obtain ⟨-, hh2⟩ := h.runs.row
    rcases hh2 with ⟨rfl, -⟩ | ⟨g, cap, cur', rfl, hb, hg', -⟩
    · cases hk
    · simp only [Value.ownBlock, Option.some.injEq] at hk
      subst hk
      exact ⟨_, hg', hb⟩
  have h8 := hu.get h.b8 (fun e => by obtain ⟨cur, hc, -⟩ := hty _ e; exact not_ty h.b8 (by decide) _ _ hc)
  have hc8 : Upd (fun k => k = p8) w2 (w2.setCell ⟨p8, 6, none⟩ rs') := Upd.cell_only w2 p8 6 rs'
  have hT8 : ∀ k, k = p8 → ∀ cur fr, w2.heap[k]? ≠ some (.cells cur 5 fr) ∧ w2.heap[k]? ≠ some (.cells cur 48 fr) := by
    rintro k rfl cur fr
    exact ⟨not_ty h8 (by decide) cur fr, not_ty h8 (by decide) cur fr⟩
  have hT : ∀ k, rs.ownBlock = some k → ∀ cur fr, W.heap[k]? ≠ some (.cells cur 5 fr) := by
    intro k hk cur fr
    obtain ⟨cur', hc, -⟩ := hty k hk
    exact not_ty hc (by decide) cur fr
  have hupd : Upd (fun _ => False) w (w2.setCell ⟨p8, 6, none⟩ rs') := (h.r.upd.trans hu (fun k hk e => by obtain ⟨_, _, h9⟩ := hty k e; omega)).trans hc8 (fun k hk e => by have := h.n8; omega)
  refine ⟨h8, ⟨⟨hupd, ?_, ?_, ?_, h.r.lt, h.r.n2, h.r.n7, h.r.hl⟩, ?_, h.ne, h.n8, ?_, hro.keepT hc8 hT8, ?_, ?_⟩⟩
  · exact hc8.get (hu.get h.r.b2 (fun e => by obtain ⟨cur, hc, -⟩ := hty _ e; exact not_ty h.r.b2 (by decide) _ _ hc)) (fun e => h.ne e.symm)
  · exact hc8.get (hu.get h.r.rd (fun e => by obtain ⟨cur, hc, -⟩ := hty _ e; exact not_ty h.r.rd (by decide) _ _ hc)) (fun e => h.ne7 e.symm)
  · exact (h.r.bb.keepT hu hT).keepT hc8 (fun k e cur fr => (hT8 k e cur fr).1)
  · rw [heap_setCell_at _ _ _ _ _ _ h8]; simp [verC]
  · exact (h.st.keepT hu hT).keepT hc8 (fun k e cur fr => (hT8 k e cur fr).1)
  · intro y hy
    rcases List.mem_append.1 hy with hy | hy
    · exact h.ks y hy
    · rw [List.mem_singleton] at hy; subst hy; exact hk
  · have e : st.ownBlock.toList ++ keyBlocks (L ++ [x]) = (st.ownBlock.toList ++ keyBlocks L) ++ (x.f.ownBlock.toList ++ x.l.ownBlock.toList) := by simp [keyBlocks]
    rw [e]
    refine ⟨List.nodup_append.2 ⟨h.own.1, ?_, ?_⟩, ?_⟩
    · refine List.nodup_append.2 ⟨by cases x.f.ownBlock <;> simp, by cases x.l.ownBlock <;> simp, ?_⟩
      intro a ha b hb hab
      subst hab
      exact hf3 a (by simpa using ha) (by simpa using hb)
    · intro a ha b hb hab
      subst hab
      rcases List.mem_append.1 hb with hb | hb
      · exact (hf1 a (by simpa using hb)).2 ha
      · exact (hf2 a (by simpa using hb)).2 ha
    · intro k hk
      rcases List.mem_append.1 hk with hk | hk
      · exact h.own.2 k hk
      · rcases List.mem_append.1 hk with hk | hk
        · exact (hf1 k (by simpa using hk)).1
        · exact (hf2 k (by simpa using hk)).1

end Go.Proofs.YtgaidmohdhaonaaGreatDoor

namespace Go.Proofs.YtgaidmohdhaonaaGreatDoor
set_option linter.unusedVariables false
set_option linter.unusedSimpArgs false
set_option linter.unnecessarySimpa false
set_option linter.unusedSectionVars false
open Go Go.RowKit

set_option maxRecDepth 100000 in
theorem hasPrefix_any {w : World} {v1 v2 : Value} {b m : List UInt8} (hb : BAt w v1 b) (hm : BAt w v2 m) (h0 : 0 < m.length) :
    Calls Tryz.prog 72 #[v1, v2] w fun e w' => e = .returned (.bool (decide (b.take m.length = m))) ∧ w' = w := by
  have HB := hid hb; have HM := hid hm
  obtain ⟨ao, ca, rfl, h1, h2, -, h4⟩ := hb
  obtain ⟨mo, cm, rfl, k1, k2, -, -⟩ := hm
  by_cases hl : m.length ≤ b.length
  · obtain ⟨g, o, rfl⟩ : ∃ g o, ao = some ⟨g, o, none⟩ := by
      obtain ⟨g, o, e, -⟩ := h4 0 (by omega)
      exact ⟨g, o, e⟩
    have hsub := HB.out.sub (lo := 0) (n := m.length) (by omega)
    rw [Nat.add_zero, Nat.sub_zero, List.drop_zero] at hsub
    have HE := hid (equal_any hsub.bytes HM.out.bytes)
    have hli : (m.length : Int) ≤ (b.length : Int) := by omega
    have hlc : (m.length : Int) ≤ (ca : Int) := by omega
    have hc0 : ¬ ca = 0 := by omega
    clear h4 hsub
    go_enter Tryz.func72, Tryz.ntmps72
    go_wp2_with fail
    refine HE.out.mono ?_
    rintro e w' ⟨rfl, hww⟩
    obtain rfl := hww.symm
    go_wp2
    go_ret
    exact ⟨rfl, rfl⟩
  · have hne : decide (b.take m.length = m) = false := by
      rw [decide_eq_false_iff_not]
      intro e
      have := congrArg List.length e
      rw [List.length_take] at this
      omega
    rw [hne]
    have hli : ¬ (m.length : Int) ≤ (b.length : Int) := by omega
    clear h4 hne
    go_enter Tryz.func72, Tryz.ntmps72
    go_wp2
    go_ret
    exact ⟨rfl, rfl⟩

/-- The last call that reads a run, and its joining. -/
theorem meta_last {w W : World} {p2 p7 p8 : Nat} {g : Option Addr} {c : Nat} {B S : List UInt8} {a1 a2 a3 a4 a5 : Int} {st : Value} {ra : Option Addr} {rc LL N : Nat} {L : List MV} {s7 s8 : RdA} {n1 n2 n3 n4 n5 n6 : Int} {l7 l8 : List UInt8} {x7 : Option Addr} {l7' y7 : Nat}
    (h : DecS w W p2 p7 p8 g c B a1 a2 a3 a4 a5 st (.slice ra LL rc) S L s7) (hLL : LL = L.length) (hL : L.length ≤ 100) (hN : N = B.length) (d7 : DataIs W (.slice x7 l7' y7) l7) (hk7 : l7.length ≤ 1048576) (hf7 : ∀ k, (Value.slice x7 l7' y7).ownBlock = some k → w.heap.size ≤ k ∧ k ∉ st.ownBlock.toList ++ keyBlocks L) (h8 : rdB B N s7 = (l8, s8)) :
    Calls Tryz.prog 75 #[.pointer (some ⟨p7, 0, none⟩), .int .i64 (N : Int)] W fun e W8 => ∃ x8 l8' y8, e = .returned (.slice x8 l8' y8) ∧ W8.cell? ⟨p8, 6, none⟩ = some (.slice ra LL rc) ∧ p8 < W8.heap.size ∧
    ∃ ao L2 cap w9, (Builtin.append_ #[23, 23] 23 #[(.slice ra LL rc), .slice (some ⟨W8.heap.size, 0, none⟩) 1 1]).run Tryz.prog (W8.alloc (.cells #[.int .i64 n1, .int .i64 n2, .int .i64 n3, .int .i64 n4, .int .i64 n5, .int .i64 n6, .slice x7 l7' y7, .slice x8 l8' y8] 48)) = .ok (.slice ao L2 cap) w9 ∧
      w9.cell? ⟨p8, 6, none⟩ = some (.slice ra LL rc) ∧ w9.frozen? ⟨p8, 6, none⟩ = false ∧ p8 < w9.heap.size ∧ Hid (L2 = LL + 1 ∧ ∃ f l, DecS w (w9.setCell ⟨p8, 6, none⟩ (.slice ao L2 cap)) p2 p7 p8 g c B a1 a2 a3 a4 a5 st (.slice ao L2 cap) S (L ++ [⟨⟨n1, n2, n3, n4, n5, n6, l7, l8⟩, f, l⟩]) s8) := by
  subst hLL
  subst hN
  have hB := h.r.hl
  have hk8 : l8.length ≤ 1048576 := by
    have e : l8 = (rdB B B.length s7).1 := by rw [h8]
    rw [e]; unfold rdB; split
    · simp
    · exact Nat.le_trans readB_len hB
  refine (h.bytes (by omega) h8).mono ?_
  rintro e W8 ⟨v8, rfl, g8, hu8, d8, n8⟩
  have hf8 := fun k e => h.fresh (n8 k e)
  have hf78 : ∀ k, (Value.slice x7 l7' y7).ownBlock = some k → v8.ownBlock ≠ some k := fun k e1 e2 => by have h1 := d7.lt k e1; have h2 := n8 k e2; omega
  obtain ⟨x8, y8, e8, -⟩ := d8.bat
  have d7' := d7.keepT hu8 (fun k e cur fr => (h.r.ty k e cur fr).1)
  subst e8
  refine ⟨x8, l8.length, y8, rfl, (verCells g8.b8).1.2.2.2.2.2.2, lt_of_heap g8.b8, ?_⟩
  obtain ⟨ao, cap, w9, hr, hro, hu9⟩ := g8.runs.push ⟨⟨n1, n2, n3, n4, n5, n6, l7, l8⟩, .slice x7 l7' y7, .slice x8 l8.length y8⟩ d7' d8 g8.r.upd.size (by omega) rfl
  obtain ⟨hb9, hd9⟩ := g8.join hro hu9 ⟨hk7, hk8⟩ hf7 hf8 hf78
  exact ⟨ao, _, cap, w9, hr, (verCells hb9).1.2.2.2.2.2.2, (verCells hb9).2.1.2.2.2.2.2.2, lt_of_heap hb9, rfl, _, _, hd9⟩

theorem rdB_len {B : List UInt8} {m : Nat} {s : RdA} (hB : B.length ≤ 1048576) : (rdB B m s).1.length ≤ 1048576 := by
  unfold rdB; split
  · simp
  · exact Nat.le_trans readB_len hB

end Go.Proofs.YtgaidmohdhaonaaGreatDoor

namespace Go.Proofs.YtgaidmohdhaonaaGreatDoor
set_option linter.unusedVariables false
set_option linter.unusedSimpArgs false
set_option linter.unnecessarySimpa false
set_option linter.unusedSectionVars false
open Go Go.RowKit

/-- What Decode answers. -/
def DecRes (w' : World) (e : Ending) : Option VerA → Prop
  | none => e = .returned (.tuple #[.agg (verC 0 0 0 0 0 (.slice none 0 0) (.slice none 0 0)), .int .i64 100])
  | some x => ∃ v, e = .returned (.tuple #[v, .int .i64 0]) ∧ VerAt w' v x

theorem readFr_len {b : List UInt8} {a : Nat} : (readFr b a).1.length ≤ 1048576 := by
  unfold readFr
  repeat' split
  all_goals first | (simp; done) | (simp only [List.length_take]; omega)

theorem verOf {W : World} {base : Nat} {S : List UInt8} {a1 a2 a3 a4 a5 : Int} {st rs : Value} {L : List MV} (h1 : DataIs W st S) (h2 : RunsOwn W base rs L) :
    VerAt W (.agg #[.int .i64 a1, .int .i64 a2, .int .i64 a3, .int .i64 a4, .int .i64 a5, st, rs]) ⟨a1, a2, a3, a4, a5, S, L.map MV.m⟩ := by
  obtain ⟨s1, d1, e1, -⟩ := h1.bat
  obtain ⟨s2, d2, e2⟩ := h2.slice
  have hr := h2.at
  have hb := h1.bat
  refine ⟨s1, d1, s2, d2, ?_, ?_, ?_⟩
  · rw [e1, e2]; simp
  · rw [← e1]; exact hb
  · rw [e2] at hr; simpa using hr
/-- A version of a call's own: nothing of it lies below base, each byte string has a block of its own. -/
structure VerOwn (W : World) (base : Nat) (v : Value) (x : VerA) : Prop where
  ex : ∃ st rs L, v = .agg #[.int .i64 x.gen, .int .i64 x.flushed, .int .i64 x.next, .int .i64 x.low, .int .i64 x.clock, st, rs] ∧ DataIs W st x.state ∧ RunsOwn W base rs L ∧ x.runs = L.map MV.m ∧
    (st.ownBlock.toList ++ keyBlocks L).Nodup ∧ ∀ k ∈ st.ownBlock.toList ++ keyBlocks L, base ≤ k

/-- What the program's Decode answers. -/
def DecOwn (w' : World) (base : Nat) (e : Ending) : Option VerA → Prop
  | none => e = .returned (.tuple #[.agg (verC 0 0 0 0 0 (.slice none 0 0) (.slice none 0 0)), .int .i64 100])
  | some x => ∃ v, e = .returned (.tuple #[v, .int .i64 0]) ∧ VerOwn w' base v x

theorem VerOwn.at {W : World} {base : Nat} {v : Value} {x : VerA} (h : VerOwn W base v x) : VerAt W v x := by
  obtain ⟨st, rs, L, rfl, h1, h2, h3, -, -⟩ := h.ex
  have h4 := verOf (a1 := x.gen) (a2 := x.flushed) (a3 := x.next) (a4 := x.low) (a5 := x.clock) h1 h2
  rw [← h3] at h4
  exact h4

theorem VerOwn.keep {S : Nat → Prop} {W W' : World} {base : Nat} {v : Value} {x : VerA} (h : VerOwn W base v x) (hu : Upd S W W') (hS : ∀ k, S k → k < base) : VerOwn W' base v x := by
  obtain ⟨st, rs, L, rfl, h1, h2, h3, h4, h5⟩ := h.ex
  have hk : ∀ y ∈ L, ∀ k, (y.f.ownBlock = some k ∨ y.l.ownBlock = some k) → base ≤ k := by
    intro y hy k hk
    refine h5 k (List.mem_append.2 (.inr (List.mem_flatMap.2 ⟨y, hy, List.mem_append.2 ?_⟩)))
    rcases hk with hk | hk
    · exact .inl (by simpa using hk)
    · exact .inr (by simpa using hk)
  refine ⟨st, rs, L, rfl, h1.upd hu (fun k e hs => ?_), ⟨owns_upd h2.row hu (fun k e hs => ?_), fun y hy => ⟨(h2.data y hy).1.upd hu (fun k e hs => ?_), (h2.data y hy).2.upd hu (fun k e hs => ?_)⟩⟩, h3, h4, h5⟩
  · have := hS k hs; have := h5 k (List.mem_append.2 (.inl (by simpa using e))); omega
  · have := hS k hs; have := (h2.row.lt k e).1; omega
  · have := hS k hs; have := hk y hy k (.inl e); omega
  · have := hS k hs; have := hk y hy k (.inr e); omega

theorem rdN_nonneg (b : List UInt8) (s : RdA) : 0 ≤ (rdN b s).1 ∧ (rdN b s).1 ≤ 9223372036854775807 := by
  unfold rdN
  split
  · simp
  · rename_i h
    simp only [not_or] at h
    have := h.2
    simp only
    omega

/-- How the runs are read: the rest of them. -/
theorem rdRuns_step {M : RdA → MetaA × RdA} {K k : Nat} {s0 s : RdA} {pre : List MetaA} (hk : k < K) (hb : s.bad = false) (h : rdRunsG M K s0 = (pre ++ (rdRunsG M (K - k) s).1, (rdRunsG M (K - k) s).2)) :
    rdRunsG M K s0 = ((pre ++ [(M s).1]) ++ (rdRunsG M (K - (k + 1)) (M s).2).1, (rdRunsG M (K - (k + 1)) (M s).2).2) := by
  rw [h, show K - k = (K - (k + 1)) + 1 from by omega, rdRunsG, if_neg (by rw [hb]; decide)]
  simp
theorem rdRuns_end {M : RdA → MetaA × RdA} {K k : Nat} {s0 s : RdA} {pre : List MetaA} (hk : ¬ (k < K ∧ s.bad = false)) (h : rdRunsG M K s0 = (pre ++ (rdRunsG M (K - k) s).1, (rdRunsG M (K - k) s).2)) : rdRunsG M K s0 = (pre, s) := by
  rw [h]
  have e : rdRunsG M (K - k) s = ([], s) := by
    by_cases hkk : k < K
    · rw [show K - k = (K - (k + 1)) + 1 from by omega, rdRunsG, if_pos (by cases hs : s.bad <;> simp_all)]
    · rw [show K - k = 0 from by omega, rdRunsG]
  rw [e, List.append_nil]

theorem rdN'_nonneg (b : List UInt8) (s : RdA) : 0 ≤ (rdN' b s).1 ∧ (rdN' b s).1 ≤ 9223372036854775807 := by
  unfold rdN'
  split
  · simp
  · exact rdN_nonneg b s
theorem rdB'_len {B : List UInt8} {m : Nat} {s : RdA} (hB : B.length ≤ 1048576) : (rdB' B m s).1.length ≤ 1048576 := by
  unfold rdB'; split
  · simp
  · unfold rdB; split
    · simp
    · exact Nat.le_trans readB_len hB

end Go.Proofs.YtgaidmohdhaonaaGreatDoor
