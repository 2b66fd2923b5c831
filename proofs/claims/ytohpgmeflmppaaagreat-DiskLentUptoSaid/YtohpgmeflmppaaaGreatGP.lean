/-
  The world of the scripts, in memory: the program's disks, the document's, the book; what one step leaves of it. No walk stands here.
  The world of the scripts: program and document side by side; acts, walked: Create, Sync, Rename, Delete.
-/
import Derived.Test.YtohpgmeflmppaaaGreatGO
import Derived.Test.YtohpgmeflmppaaaGreatGN
namespace Go.Proofs.YtohpgmeflmppaaaGreat
set_option linter.unusedVariables false
set_option linter.unusedSimpArgs false
set_option linter.unnecessarySimpa false
set_option linter.unusedSectionVars false
open Go Go.RowKit

structure WS where
  p : Nat
  dv : Value
  rv : Value
  b : BK
  ds : List DS
  rs : List RS

/-- The world's own blocks: its first one, its two rows, its book. -/
def WS.own0 (S : WS) (k : Nat) : Prop := k = S.p ∨ S.dv.ownBlock = some k ∨ S.rv.ownBlock = some k ∨ S.b.blk k

/-- Whose a block is: 0: the world's; 2 i + 1: the i-th disk's; 2 i + 2: the document's i-th. -/
def WS.ownAt (S : WS) (L k : Nat) : Prop :=
  (L = 0 ∧ S.own0 k) ∨ (∃ i, ∃ h : i < S.ds.length, L = 2 * i + 1 ∧ k ∈ S.ds[i].blocks) ∨ (∃ i, ∃ h : i < S.rs.length, L = 2 * i + 2 ∧ S.rs[i].own k)

def ptrD (s : DS) : Value := .pointer (some ⟨s.p, 0, none⟩)
def ptrR (r : RS) : Value := .pointer (some ⟨r.p, 0, none⟩)

structure WS.Mem (B : Nat) (w : World) (S : WS) : Prop where
  top : w.heap[S.p]? = some (.cells (worldCells S.dv S.rv S.b) 48 (0, 0))
  rowD : w.ownsRow 0 49 1 S.dv S.ds.length (S.ds.map ptrD)
  rowR : w.ownsRow 0 50 1 S.rv S.rs.length (S.rs.map ptrR)
  book : BookAt w S.b
  len : S.rs.length = S.ds.length
  dsIn : ∀ i (h : i < S.ds.length), S.ds[i].In w
  rsIn : ∀ i (h : i < S.rs.length), S.rs[i].In w
  lab : ∃ lab : Nat → Nat, ∀ L k, S.ownAt L k → lab k = L
  low : ∀ L k, S.ownAt L k → B ≤ k
  dp : ¬ S.dv.ownBlock = some S.p
  rp : ¬ S.rv.ownBlock = some S.p
  bp : ¬ S.b.blk S.p
  dr : ∀ k, S.dv.ownBlock = some k → ¬ S.rv.ownBlock = some k ∧ ¬ S.b.blk k
  rb : ∀ k, S.rv.ownBlock = some k → ¬ S.b.blk k

theorem WS.Mem.lt {B : Nat} {w : World} {S : WS} (h : S.Mem B w) {L k : Nat} (hk : S.ownAt L k) : k < w.heap.size := by
  rcases hk with ⟨_, hk⟩ | ⟨i, hi, _, hk⟩ | ⟨i, hi, _, hk⟩
  · rcases hk with rfl | hk | hk | hk
    · exact lt_of_heap h.top
    · exact (h.rowD.lt k hk).2
    · exact (h.rowR.lt k hk).2
    · exact h.book.lt k hk
  · exact (h.dsIn i hi).lt k hk
  · exact (h.rsIn i hi).lt hk

theorem WS.Mem.other {B : Nat} {w : World} {S : WS} (h : S.Mem B w) {L L' k : Nat} (hk : S.ownAt L k) (hk' : S.ownAt L' k) : L = L' := by
  obtain ⟨lab, hl⟩ := h.lab
  exact (hl L k hk).symm.trans (hl L' k hk')

/-- New owners of one kind alone. -/
theorem WS.Mem.relab {B : Nat} {w : World} {S S' : WS} (h : S.Mem B w) (hB : B ≤ w.heap.size) (L : Nat) (hs : ∀ L' k, L' ≠ L → S'.ownAt L' k → S.ownAt L' k) (hL : ∀ k, S'.ownAt L k → S.ownAt L k ∨ w.heap.size ≤ k) :
    (∃ lab : Nat → Nat, ∀ L' k, S'.ownAt L' k → lab k = L') ∧ ∀ L' k, S'.ownAt L' k → B ≤ k := by
  obtain ⟨lab, hl⟩ := h.lab
  refine ⟨⟨fun k => if k < w.heap.size then lab k else L, fun L' k hk => ?_⟩, fun L' k hk => ?_⟩
  · show (if k < w.heap.size then lab k else L) = L'
    by_cases e : L' = L
    · subst e
      rcases hL k hk with h1 | h1
      · rw [if_pos (h.lt h1)]; exact hl _ _ h1
      · rw [if_neg (by omega)]
    · have h1 := hs L' k e hk
      rw [if_pos (h.lt h1)]
      exact hl _ _ h1
  · by_cases e : L' = L
    · subst e
      rcases hL k hk with h1 | h1
      · exact h.low _ _ h1
      · omega
    · exact h.low _ _ (hs L' k e hk)

section
variable {B : Nat} {w w' : World} {S : WS}

theorem WS.Mem.own0_keep (h : S.Mem B w) {T : Nat → Prop} (hu : Upd T w w') (hT : ∀ k, S.own0 k → ¬ T k) :
    w'.heap[S.p]? = some (.cells (worldCells S.dv S.rv S.b) 48 (0, 0)) ∧ w'.ownsRow 0 49 1 S.dv S.ds.length (S.ds.map ptrD) ∧ w'.ownsRow 0 50 1 S.rv S.rs.length (S.rs.map ptrR) ∧ BookAt w' S.b :=
  ⟨hu.get h.top (hT _ (.inl rfl)), owns_upd h.rowD hu (fun k hk => hT k (.inr (.inl hk))), owns_upd h.rowR hu (fun k hk => hT k (.inr (.inr (.inl hk)))), h.book.upd hu (fun k hk => hT k (.inr (.inr (.inr hk))))⟩

theorem WS.Mem.keep (h : S.Mem B w) (hu : Upd (fun _ => False) w w') : S.Mem B w' := by
  obtain ⟨h1, h2, h3, h4⟩ := h.own0_keep hu (fun _ _ h => h)
  exact ⟨h1, h2, h3, h4, h.len, fun i hi => (h.dsIn i hi).upd hu (fun _ _ h => h), fun i hi => (h.rsIn i hi).upd hu (fun _ _ h => h), h.lab, h.low, h.dp, h.rp, h.bp, h.dr, h.rb⟩

theorem map_set_ptrD {l : List DS} {i : Nat} (hi : i < l.length) {s2 : DS} (hp : s2.p = l[i].p) : (l.set i s2).map ptrD = l.map ptrD := by
  apply List.ext_getElem?
  intro j
  rw [List.getElem?_map, List.getElem?_map, List.getElem?_set]
  by_cases e : i = j
  · subst e
    rw [if_pos rfl, if_pos hi, List.getElem?_eq_getElem hi]
    simp [ptrD, hp]
  · rw [if_neg e]

theorem map_set_ptrR {l : List RS} {i : Nat} (hi : i < l.length) {s2 : RS} (hp : s2.p = l[i].p) : (l.set i s2).map ptrR = l.map ptrR := by
  apply List.ext_getElem?
  intro j
  rw [List.getElem?_map, List.getElem?_map, List.getElem?_set]
  by_cases e : i = j
  · subst e
    rw [if_pos rfl, if_pos hi, List.getElem?_eq_getElem hi]
    simp [ptrR, hp]
  · rw [if_neg e]

/-- A step of one of the program's disks. -/
theorem WS.Mem.stepD (h : S.Mem B w) (hB : B ≤ w.heap.size) {i : Nat} (hi : i < S.ds.length) {s2 : DS} (hst : Step w w' S.ds[i] s2) : WS.Mem B w' { S with ds := S.ds.set i s2 } := by
  have hown : ∀ k, k ∈ S.ds[i].blocks → S.ownAt (2 * i + 1) k := fun k hk => .inr (.inl ⟨i, hi, rfl, hk⟩)
  have h0 : ∀ k, S.own0 k → ¬ k ∈ S.ds[i].blocks := fun k hk hm => by have := h.other (L := 0) (.inl ⟨rfl, hk⟩) (hown k hm); omega
  obtain ⟨h1, h2, h3, h4⟩ := h.own0_keep hst.upd h0
  have hset : ∀ j (hj : j < (S.ds.set i s2).length), j ≠ i → (S.ds.set i s2)[j] = S.ds[j]'(by simpa using hj) := fun j hj e => by rw [List.getElem_set_ne (Ne.symm e)]
  have hseti : ∀ (hj : i < (S.ds.set i s2).length), (S.ds.set i s2)[i] = s2 := fun hj => by simp
  obtain ⟨hlab, hlow⟩ := h.relab (S' := { S with ds := S.ds.set i s2 }) hB (2 * i + 1) (by
    intro L' k hne hk
    rcases hk with ⟨e, hk⟩ | ⟨j, hj, e, hk⟩ | ⟨j, hj, e, hk⟩
    · exact .inl ⟨e, hk⟩
    · have hji : j ≠ i := fun e' => hne (by omega)
      refine .inr (.inl ⟨j, by simpa using hj, e, ?_⟩)
      have hk' : k ∈ ((S.ds.set i s2)[j]'hj).blocks := hk
      rw [hset j hj hji] at hk'
      exact hk'
    · exact .inr (.inr ⟨j, hj, e, hk⟩)) (by
    intro k hk
    rcases hk with ⟨e, hk⟩ | ⟨j, hj, e, hk⟩ | ⟨j, hj, e, hk⟩
    · omega
    · obtain rfl : j = i := by omega
      have hk' : k ∈ ((S.ds.set j s2)[j]'hj).blocks := hk
      rw [hseti hj] at hk'
      rcases hst.foot k hk' with h5 | h5
      · exact .inl (hown k h5)
      · exact .inr h5
    · omega)
  refine ⟨h1, ?_, h3, h4, by show S.rs.length = (S.ds.set i s2).length; rw [List.length_set]; exact h.len, ?_, ?_, hlab, hlow, h.dp, h.rp, h.bp, h.dr, h.rb⟩
  · show w'.ownsRow 0 49 1 S.dv (S.ds.set i s2).length ((S.ds.set i s2).map ptrD)
    rw [List.length_set, map_set_ptrD hi hst.p]
    exact h2
  · intro j hj
    have hj' : j < S.ds.length := by simpa using hj
    by_cases e : j = i
    · subst e
      show ((S.ds.set j s2)[j]'hj).In w'
      rw [hseti hj]
      exact hst.ins
    · show ((S.ds.set i s2)[j]'hj).In w'
      rw [hset j hj e]
      exact (h.dsIn j hj').upd hst.upd (fun k hk hm => by have := h.other (L := 2 * j + 1) (.inr (.inl ⟨j, hj', rfl, hk⟩)) (hown k hm); omega)
  · intro j hj
    exact (h.rsIn j hj).upd hst.upd (fun k hk hm => by have := h.other (L := 2 * j + 2) (.inr (.inr ⟨j, hj, rfl, hk⟩)) (hown k hm); omega)

/-- A step of one of the document's. -/
theorem WS.Mem.stepR (h : S.Mem B w) (hB : B ≤ w.heap.size) {i : Nat} (hi : i < S.rs.length) {s2 : RS} (hst : RStep w w' S.rs[i] s2) : WS.Mem B w' { S with rs := S.rs.set i s2 } := by
  have hown : ∀ k, S.rs[i].own k → S.ownAt (2 * i + 2) k := fun k hk => .inr (.inr ⟨i, hi, rfl, hk⟩)
  have h0 : ∀ k, S.own0 k → ¬ S.rs[i].own k := fun k hk hm => by have := h.other (L := 0) (.inl ⟨rfl, hk⟩) (hown k hm); omega
  obtain ⟨h1, h2, h3, h4⟩ := h.own0_keep hst.upd h0
  have hset : ∀ j (hj : j < (S.rs.set i s2).length), j ≠ i → (S.rs.set i s2)[j] = S.rs[j]'(by simpa using hj) := fun j hj e => by rw [List.getElem_set_ne (Ne.symm e)]
  have hseti : ∀ (hj : i < (S.rs.set i s2).length), (S.rs.set i s2)[i] = s2 := fun hj => by simp
  obtain ⟨hlab, hlow⟩ := h.relab (S' := { S with rs := S.rs.set i s2 }) hB (2 * i + 2) (by
    intro L' k hne hk
    rcases hk with ⟨e, hk⟩ | ⟨j, hj, e, hk⟩ | ⟨j, hj, e, hk⟩
    · exact .inl ⟨e, hk⟩
    · exact .inr (.inl ⟨j, hj, e, hk⟩)
    · have hji : j ≠ i := fun e' => hne (by omega)
      refine .inr (.inr ⟨j, by simpa using hj, e, ?_⟩)
      have hk' : ((S.rs.set i s2)[j]'hj).own k := hk
      rw [hset j hj hji] at hk'
      exact hk') (by
    intro k hk
    rcases hk with ⟨e, hk⟩ | ⟨j, hj, e, hk⟩ | ⟨j, hj, e, hk⟩
    · omega
    · omega
    · obtain rfl : j = i := by omega
      have hk' : ((S.rs.set j s2)[j]'hj).own k := hk
      rw [hseti hj] at hk'
      rcases hst.foot k hk' with h5 | h5
      · exact .inl (hown k h5)
      · exact .inr h5)
  refine ⟨h1, h2, ?_, h4, by show (S.rs.set i s2).length = S.ds.length; rw [List.length_set]; exact h.len, ?_, ?_, hlab, hlow, h.dp, h.rp, h.bp, h.dr, h.rb⟩
  · show w'.ownsRow 0 50 1 S.rv (S.rs.set i s2).length ((S.rs.set i s2).map ptrR)
    rw [List.length_set, map_set_ptrR hi hst.p]
    exact h3
  · intro j hj
    exact (h.dsIn j hj).upd hst.upd (fun k hk hm => by have := h.other (L := 2 * j + 1) (.inr (.inl ⟨j, hj, rfl, hk⟩)) (hown k hm); omega)
  · intro j hj
    have hj' : j < S.rs.length := by simpa using hj
    by_cases e : j = i
    · subst e
      show ((S.rs.set j s2)[j]'hj).In w'
      rw [hseti hj]
      exact hst.ins
    · show ((S.rs.set i s2)[j]'hj).In w'
      rw [hset j hj e]
      exact (h.rsIn j hj').upd hst.upd (fun k hk hm => by have := h.other (L := 2 * j + 2) (.inr (.inr ⟨j, hj', rfl, hk⟩)) (hown k hm); omega)

/-- A list of nobody's was taken into the book. -/
theorem WS.Mem.took (h : S.Mem B w) (hB : B ≤ w.heap.size) {v : Value} {b' : BK} (hk : Took w w' S.p S.dv S.rv S.b b' v) (hv : ∀ L k, v.ownBlock = some k → ¬ S.ownAt L k) (hvB : ∀ k, v.ownBlock = some k → B ≤ k ∧ k < w.heap.size) : WS.Mem B w' { S with b := b' } := by
  have hsel : ∀ L k, L ≠ 0 → S.ownAt L k → ¬ (k = S.p ∨ S.b.blk k ∨ v.ownBlock = some k) := by
    intro L k hL hk' e
    rcases e with e | e | e
    · exact hL (h.other hk' (.inl ⟨rfl, .inl e⟩))
    · exact hL (h.other hk' (.inl ⟨rfl, .inr (.inr (.inr e))⟩))
    · exact hv L k e hk'
  have hdv : ∀ k, S.dv.ownBlock = some k → ¬ (k = S.p ∨ S.b.blk k ∨ v.ownBlock = some k) := by
    intro k hk' e
    rcases e with e | e | e
    · exact h.dp (e ▸ hk')
    · exact (h.dr k hk').2 e
    · exact hv 0 k e (.inl ⟨rfl, .inr (.inl hk')⟩)
  have hrv : ∀ k, S.rv.ownBlock = some k → ¬ (k = S.p ∨ S.b.blk k ∨ v.ownBlock = some k) := by
    intro k hk' e
    rcases e with e | e | e
    · exact h.rp (e ▸ hk')
    · exact h.rb k hk' e
    · exact hv 0 k e (.inl ⟨rfl, .inr (.inr (.inl hk'))⟩)
  have hbl : ∀ k, b'.blk k → S.b.blk k ∨ (v.ownBlock = some k) ∨ w.heap.size ≤ k := hk.foot
  have hfoot : ∀ (X : Nat → Prop) k, (∀ k, X k → k < w.heap.size) → (∀ k, X k → ¬ (k = S.p ∨ S.b.blk k ∨ v.ownBlock = some k)) → X k → ¬ b'.blk k := by
    intro X k h1 h2 hx hb
    rcases hbl k hb with h3 | h3 | h3
    · exact h2 k hx (.inr (.inl h3))
    · exact h2 k hx (.inr (.inr h3))
    · have := h1 k hx; omega
  obtain ⟨lab, hl⟩ := h.lab
  refine ⟨hk.top, owns_upd h.rowD hk.upd hdv, owns_upd h.rowR hk.upd hrv, hk.book, h.len, ?_, ?_, ⟨fun k => if v.ownBlock = some k then 0 else if k < w.heap.size then lab k else 0, ?_⟩, ?_, h.dp, h.rp, ?_, ?_, ?_⟩
  · intro i hi
    exact (h.dsIn i hi).upd hk.upd (fun k hk' => hsel (2 * i + 1) k (by omega) (.inr (.inl ⟨i, hi, rfl, hk'⟩)))
  · intro i hi
    exact (h.rsIn i hi).upd hk.upd (fun k hk' => hsel (2 * i + 2) k (by omega) (.inr (.inr ⟨i, hi, rfl, hk'⟩)))
  · intro L k hk'
    show (if v.ownBlock = some k then 0 else if k < w.heap.size then lab k else 0) = L
    have hold : S.ownAt L k → (if v.ownBlock = some k then 0 else if k < w.heap.size then lab k else 0) = L := fun h1 => by
      rw [if_neg (fun e => hv L k e h1), if_pos (h.lt h1)]; exact hl L k h1
    rcases hk' with ⟨rfl, hk'⟩ | ⟨i, hi, e, hk'⟩ | ⟨i, hi, e, hk'⟩
    · rcases hk' with hk' | hk' | hk' | hk'
      · exact hold (.inl ⟨rfl, .inl hk'⟩)
      · exact hold (.inl ⟨rfl, .inr (.inl hk')⟩)
      · exact hold (.inl ⟨rfl, .inr (.inr (.inl hk'))⟩)
      · rcases hbl k hk' with h3 | h3 | h3
        · exact hold (.inl ⟨rfl, .inr (.inr (.inr h3))⟩)
        · rw [if_pos h3]
        · split
          · rfl
          · rw [if_neg (by omega)]
    · exact hold (.inr (.inl ⟨i, hi, e, hk'⟩))
    · exact hold (.inr (.inr ⟨i, hi, e, hk'⟩))
  · intro L k hk'
    rcases hk' with ⟨rfl, hk'⟩ | ⟨i, hi, e, hk'⟩ | ⟨i, hi, e, hk'⟩
    · rcases hk' with hk' | hk' | hk' | hk'
      · exact h.low 0 k (.inl ⟨rfl, .inl hk'⟩)
      · exact h.low 0 k (.inl ⟨rfl, .inr (.inl hk')⟩)
      · exact h.low 0 k (.inl ⟨rfl, .inr (.inr (.inl hk'))⟩)
      · rcases hbl k hk' with h3 | h3 | h3
        · exact h.low 0 k (.inl ⟨rfl, .inr (.inr (.inr h3))⟩)
        · exact (hvB k h3).1
        · omega
    · exact h.low L k (.inr (.inl ⟨i, hi, e, hk'⟩))
    · exact h.low L k (.inr (.inr ⟨i, hi, e, hk'⟩))
  · intro hb
    rcases hbl _ hb with h3 | h3 | h3
    · exact h.bp h3
    · exact hv 0 _ h3 (.inl ⟨rfl, .inl rfl⟩)
    · have h4 := lt_of_heap h.top; have h5 : w.heap.size ≤ S.p := h3; omega
  · intro k hk'
    exact ⟨(h.dr k hk').1, hfoot (fun k => S.dv.ownBlock = some k) k (fun k hk => (h.rowD.lt k hk).2) hdv hk'⟩
  · intro k hk'
    exact hfoot (fun k => S.rv.ownBlock = some k) k (fun k hk => (h.rowR.lt k hk).2) hrv hk'
end

end Go.Proofs.YtohpgmeflmppaaaGreat

namespace Go.Proofs.YtohpgmeflmppaaaGreat
set_option linter.unusedVariables false
set_option linter.unusedSimpArgs false
set_option linter.unnecessarySimpa false
set_option linter.unusedSectionVars false
open Go Go.RowKit

/-- The world made since w0: each disk is as the document's. -/
structure WOn (w0 w : World) (S : WS) : Prop where
  mem : S.Mem w0.heap.size w
  upd : Upd (fun _ => False) w0 w
  pair : ∀ i (h : i < S.ds.length) (h' : i < S.rs.length), Alike S.ds[i].abs S.rs[i].abs ∧ Sorted S.rs[i].F
  few : S.ds.length ≤ 5

theorem WOn.keep {w0 w w' : World} {S : WS} (h : WOn w0 w S) (hu : Upd (fun _ => False) w w') : WOn w0 w' S := ⟨h.mem.keep hu, h.upd.trans hu (fun _ _ h => h), h.pair, h.few⟩

/-- Both have done the same. -/
theorem WOn.both {w0 w w1 w2 : World} {S : WS} (h : WOn w0 w S) {i : Nat} (hi : i < S.ds.length) (hi' : i < S.rs.length) {s2 : DS} {r2 : RS} (hs : Step w w1 S.ds[i] s2) (hr : RStep w1 w2 S.rs[i] r2) (ha : Alike s2.abs r2.abs) (hso : Sorted r2.F) :
    WOn w0 w2 { S with ds := S.ds.set i s2, rs := S.rs.set i r2 } := by
  have m1 := h.mem.stepD h.upd.size hi hs
  have hB1 : w0.heap.size ≤ w1.heap.size := Nat.le_trans h.upd.size hs.upd.size
  have m2 := m1.stepR hB1 (i := i) hi' hr
  refine ⟨m2, ?_, ?_, by show (S.ds.set i s2).length ≤ 5; rw [List.length_set]; exact h.few⟩
  · refine (h.upd.trans hs.upd (fun k hk hm => ?_)).trans hr.upd (fun k hk hm => ?_)
    · have := h.mem.low (2 * i + 1) k (.inr (.inl ⟨i, hi, rfl, hm⟩)); omega
    · have := h.mem.low (2 * i + 2) k (.inr (.inr ⟨i, hi', rfl, hm⟩)); omega
  · intro j hj hj'
    show Alike ((S.ds.set i s2)[j]'hj).abs ((S.rs.set i r2)[j]'hj').abs ∧ Sorted ((S.rs.set i r2)[j]'hj').F
    by_cases e : i = j
    · subst e
      rw [List.getElem_set_self, List.getElem_set_self]
      exact ⟨ha, hso⟩
    · rw [List.getElem_set_ne e, List.getElem_set_ne e]
      exact h.pair j (by simpa using hj) (by simpa using hj')

/-- One call of a script. -/
structure OpI where
  kind : Int
  obj : Int
  name : ByteArray
  dest : ByteArray
  bv : Value
  bs : List UInt8
  pos : Int
  n : Int
  cv : Value
  cuts : List Int
  fv : Value
  files : List FileI

def OpI.cells (o : OpI) : Array Value := #[.int .i64 o.kind, .int .i64 o.obj, .string o.name, .string o.dest, o.bv, .int .i64 o.pos, .int .i64 o.n, o.cv, o.fv]

/-- What it was handed lies in memory, and is small. -/
structure OpI.Ok (w : World) (o : OpI) : Prop where
  bytes : BytesAt w o.bv o.bs
  bytesLow : ∀ a l c, o.bv = .slice (some a) l c → 0 < l → a.block < w.heap.size
  bytesFew : o.bs.length ≤ 16777216
  cuts : IntsAt w o.cv o.cuts
  cutsLow : ∀ a l c, o.cv = .slice (some a) l c → 0 < l → a.block < w.heap.size
  files : FilesIn w o.fv o.files
  filesFew : ∀ f ∈ o.files, f.data.length ≤ 16777216
  nMost : o.n ≤ 9223372036854775807

/-- From S to S': only what S owned has turned, or what is new since N. -/
structure Turn (N : Nat) (w w' : World) (S S' : WS) : Prop where
  upd : Upd (fun k => (∃ L, S.ownAt L k) ∨ N ≤ k) w w'
  foot : ∀ L k, S'.ownAt L k → (∃ L', S.ownAt L' k) ∨ N ≤ k

theorem Turn.keep {w w' : World} (N : Nat) (S : WS) (hu : Upd (fun _ => False) w w') : Turn N w w' S S := ⟨hu.mono (fun _ _ h => h.elim), fun L k h => .inl ⟨L, h⟩⟩

theorem Turn.trans {N : Nat} {w w1 w2 : World} {S S1 S2 : WS} (h : Turn N w w1 S S1) (h' : Turn N w1 w2 S1 S2) : Turn N w w2 S S2 := by
  refine ⟨h.upd.trans h'.upd (fun k hk hm => ?_), fun L k h2 => ?_⟩
  · rcases hm with ⟨L, hL⟩ | hm
    · exact h.foot L k hL
    · exact .inr hm
  · rcases h'.foot L k h2 with ⟨L', h3⟩ | h3
    · exact h.foot L' k h3
    · exact .inr h3

theorem Turn.low {M N : Nat} {w w' : World} {S S' : WS} (h : Turn N w w' S S') (hM : M ≤ N) : Turn M w w' S S' :=
  ⟨h.upd.mono (fun k _ hk => hk.elim .inl (fun h => .inr (Nat.le_trans hM h))), fun L k hk => (h.foot L k hk).elim .inl (fun h => .inr (Nat.le_trans hM h))⟩

theorem Turn.stepD {N : Nat} {w w' : World} {S : WS} (hN : N ≤ w.heap.size) {i : Nat} (hi : i < S.ds.length) {s2 : DS} (hst : Step w w' S.ds[i] s2) : Turn N w w' S { S with ds := S.ds.set i s2 } := by
  refine ⟨hst.upd.mono (fun k _ hk => .inl ⟨2 * i + 1, .inr (.inl ⟨i, hi, rfl, hk⟩)⟩), fun L k hk => ?_⟩
  rcases hk with ⟨e, hk⟩ | ⟨j, hj, e, hk⟩ | ⟨j, hj, e, hk⟩
  · exact .inl ⟨0, .inl ⟨rfl, hk⟩⟩
  · have hk' : k ∈ ((S.ds.set i s2)[j]'hj).blocks := hk
    by_cases e2 : i = j
    · subst e2
      rw [List.getElem_set_self] at hk'
      rcases hst.foot k hk' with h | h
      · exact .inl ⟨2 * i + 1, .inr (.inl ⟨i, hi, rfl, h⟩)⟩
      · exact .inr (Nat.le_trans hN h)
    · rw [List.getElem_set_ne e2] at hk'
      exact .inl ⟨2 * j + 1, .inr (.inl ⟨j, by simpa using hj, rfl, hk'⟩)⟩
  · exact .inl ⟨L, .inr (.inr ⟨j, hj, e, hk⟩)⟩

theorem Turn.stepR {N : Nat} {w w' : World} {S : WS} (hN : N ≤ w.heap.size) {i : Nat} (hi : i < S.rs.length) {r2 : RS} (hst : RStep w w' S.rs[i] r2) : Turn N w w' S { S with rs := S.rs.set i r2 } := by
  refine ⟨hst.upd.mono (fun k _ hk => .inl ⟨2 * i + 2, .inr (.inr ⟨i, hi, rfl, hk⟩)⟩), fun L k hk => ?_⟩
  rcases hk with ⟨e, hk⟩ | ⟨j, hj, e, hk⟩ | ⟨j, hj, e, hk⟩
  · exact .inl ⟨0, .inl ⟨rfl, hk⟩⟩
  · exact .inl ⟨L, .inr (.inl ⟨j, hj, e, hk⟩)⟩
  · have hk' : ((S.rs.set i r2)[j]'hj).own k := hk
    by_cases e2 : i = j
    · subst e2
      rw [List.getElem_set_self] at hk'
      rcases hst.foot k hk' with h | h
      · exact .inl ⟨2 * i + 2, .inr (.inr ⟨i, hi, rfl, h⟩)⟩
      · exact .inr (Nat.le_trans hN h)
    · rw [List.getElem_set_ne e2] at hk'
      exact .inl ⟨2 * j + 2, .inr (.inr ⟨j, by simpa using hj, rfl, hk'⟩)⟩

/-- None of the disks is armed or down. -/
def Calm (S : WS) : Prop := ∀ i (h : i < S.ds.length), S.ds[i].abs.down = false ∧ S.ds[i].abs.armed = 0

theorem Calm.set {S : WS} (h : Calm S) {i : Nat} (hi : i < S.ds.length) {s2 : DS} (h2 : s2.abs.down = false ∧ s2.abs.armed = 0) (b' : BK) (rs' : List RS) : Calm { S with b := b', ds := S.ds.set i s2, rs := rs' } := by
  intro j hj
  show ((S.ds.set i s2)[j]'hj).abs.down = false ∧ ((S.ds.set i s2)[j]'hj).abs.armed = 0
  by_cases e : i = j
  · subst e
    rw [List.getElem_set_self]
    exact h2
  · rw [List.getElem_set_ne e]
    exact h j (by simpa using hj)

theorem calm_act {a : DiskA} {co : Option Nat} {F : List FileA} (h : a.down = false ∧ a.armed = 0) : (actA a co F).2.down = false ∧ (actA a co F).2.armed = 0 := by
  unfold actA
  rw [if_pos h.2]
  exact h

theorem cCreate_calm {a : DiskA} (h : a.down = false ∧ a.armed = 0) (n : ByteArray) : (cCreate a n).2.down = false ∧ (cCreate a n).2.armed = 0 := by
  unfold cCreate
  repeat' split
  all_goals first | exact h | exact calm_act h
theorem cSync_calm {a : DiskA} (h : a.down = false ∧ a.armed = 0) (n : ByteArray) : (cSync a n).2.down = false ∧ (cSync a n).2.armed = 0 := by
  unfold cSync
  repeat' split
  all_goals first | exact h | exact calm_act h
theorem cDelete_calm {a : DiskA} (h : a.down = false ∧ a.armed = 0) (n : ByteArray) : (cDelete a n).2.down = false ∧ (cDelete a n).2.armed = 0 := by
  unfold cDelete
  repeat' split
  all_goals first | exact h | exact calm_act h
theorem cRename_calm {a : DiskA} (h : a.down = false ∧ a.armed = 0) (n t : ByteArray) : (cRename a n t).2.down = false ∧ (cRename a n t).2.armed = 0 := by
  unfold cRename
  repeat' split
  all_goals first | exact h | exact calm_act h
theorem cAppend_calm {a : DiskA} (h : a.down = false ∧ a.armed = 0) (n : ByteArray) (bs : List UInt8) : (cAppend a n bs).2.down = false ∧ (cAppend a n bs).2.armed = 0 := by
  unfold cAppend
  repeat' split
  all_goals first | exact h | exact calm_act h

/-- What a call leaves. -/
def Acted (w0 w : World) (S : WS) (e : Ending) (w' : World) : Prop := e = .returned (.bool true) ∧ ∃ S', WOn w0 w' S' ∧ S'.p = S.p ∧ S'.ds.length = S.ds.length ∧ S'.b = S.b ∧ (Calm S → Calm S') ∧ Turn w.heap.size w w' S S'

/-- Its three lists are slices. -/
def OpShapes (o : OpI) : Prop := ∃ ba bc ca cl cc fa fl fc, o.bv = .slice ba o.bs.length bc ∧ o.cv = .slice ca cl cc ∧ o.fv = .slice fa fl fc

theorem OpShapes.get {o : OpI} (h : OpShapes o) : OpShapes o := h

theorem OpI.shapes {w : World} {o : OpI} (h : o.Ok w) : OpShapes o := by
  obtain ⟨a1, c1, h1, -, -⟩ := h.bytes
  obtain ⟨a2, c2, h2, -, -⟩ := h.cuts
  obtain ⟨a3, c3, h3, -⟩ := h.files.shape
  exact ⟨a1, c1, a2, _, c2, a3, _, c3, h1, h2, h3⟩

set_option maxRecDepth 100000 in
set_option maxHeartbeats 3200000 in
theorem acts_create {w0 w : World} {S : WS} {o : OpI} {i : Nat} (hw : WOn w0 w S) (hi : i < S.ds.length) (hi' : i < S.rs.length) (ho : OpShapes o) (hk : o.kind = 1) :
    Calls Tryz.prog 45 #[.pointer (some ⟨S.p, 0, none⟩), .agg o.cells, ptrD S.ds[i], ptrR S.rs[i]] w fun e w' => Acted w0 w S e w' := by
  obtain ⟨ba, bc, ca, cl, cc, fa, fl, fc, hb1, hc1, hf1⟩ := ho.get
  have hcells : o.cells = #[.int .i64 1, .int .i64 o.obj, .string o.name, .string o.dest, .slice ba o.bs.length bc, .int .i64 o.pos, .int .i64 o.n, .slice ca cl cc, .slice fa fl fc] := by unfold OpI.cells; rw [hk, hb1, hc1, hf1]
  rw [hcells]
  have HD := hid (show ∀ W, Upd (fun _ => False) w W → Calls Tryz.prog 66 #[.pointer (some ⟨S.ds[i].p, 0, none⟩), .string o.name] W fun e W' => e = .returned (.int .i64 (cCreate S.ds[i].abs o.name).1) ∧ ∃ s2, Step W W' S.ds[i] s2 ∧ s2.abs = (cCreate S.ds[i].abs o.name).2 from fun W hW => by
    have h := create_any ((hw.mem.keep hW).dsIn i hi) o.name
    rw [createA_c] at h
    exact h)
  have HR := hid (show ∀ W W1 s2, Upd (fun _ => False) w W → Step W W1 S.ds[i] s2 → s2.abs = (cCreate S.ds[i].abs o.name).2 → Calls Tryz.prog 67 #[.pointer (some ⟨S.rs[i].p, 0, none⟩), .string o.name] W1 fun e W' => e = .returned (.int .i64 (cCreate S.ds[i].abs o.name).1) ∧ ∃ r2, RStep W1 W' S.rs[i] r2 ∧ Alike s2.abs r2.abs ∧ Sorted r2.F from fun W W1 s2 hW hst habs => by
    have hk := hw.keep hW
    have m1 := hk.mem.stepD hk.upd.size hi hst
    obtain ⟨hal, hso⟩ := hw.pair i hi hi'
    have hnd : NamesND S.ds[i].abs := names_nodup (hw.mem.dsIn i hi)
    have hc := cCreate_alike hal hnd o.name
    refine (refCreate_any (m1.rsIn i hi') o.name).mono ?_
    rintro e W' ⟨rfl, r2, h1, h2, h3⟩
    exact ⟨by rw [hc.1], r2, h1, habs ▸ hc.2.trans h2.symm, h3 hso⟩)
  have HW := hid hw
  unfold ptrD ptrR
  obtain ⟨dp, hdp⟩ : ∃ dp, dp = S.ds[i].p := ⟨_, rfl⟩
  obtain ⟨rp, hrp⟩ : ∃ rp, rp = S.rs[i].p := ⟨_, rfl⟩
  obtain ⟨c, hc⟩ : ∃ c, c = (cCreate S.ds[i].abs o.name).1 := ⟨_, rfl⟩
  rw [← hdp] at HD ⊢
  rw [← hrp] at HR ⊢
  rw [← hc] at HD HR
  clear hw ho hb1 hc1 hf1 hcells hdp hrp hc hk
  go_enter Tryz.func45, Tryz.ntmps45
  go_wp2_with fail
  obtain ⟨wb, hwb⟩ : ∃ wb, wb = w.alloc (.cells #[.int .i64 1, .int .i64 o.obj, .string o.name, .string o.dest, .slice ba o.bs.length bc, .int .i64 o.pos, .int .i64 o.n, .slice ca cl cc, .slice fa fl fc] 42) := ⟨_, rfl⟩
  rw [← hwb]
  obtain ⟨fb, hfb⟩ : ∃ fb, fb = w.heap.size := ⟨_, rfl⟩
  rw [← hfb]
  have hbx : wb.heap[fb]? = some (.cells #[.int .i64 1, .int .i64 o.obj, .string o.name, .string o.dest, .slice ba o.bs.length bc, .int .i64 o.pos, .int .i64 o.n, .slice ca cl cc, .slice fa fl fc] 42 (0, 0)) := by rw [hwb, hfb]; exact heap_alloc_new w _
  have b2 : wb.cell? ⟨fb, 2, none⟩ = some (.string o.name) := by rw [cell_of_row wb _ 2 _ _ _ hbx]; rfl
  have hub : Upd (fun _ => False) w wb.drew := by rw [hwb]; exact ((Upd.refl _ _).alloc _).drew
  have hfd : ¬ fb ∈ S.ds[i].blocks := fun hm => by have := (HW.out.mem.dsIn i hi).lt fb hm; omega
  have hfr : ¬ S.rs[i].own fb := fun hm => by have := (HW.out.mem.rsIn i hi').lt hm; omega
  have hfl : fb < wb.heap.size := lt_of_heap hbx
  have HUB := hid hub; have HFD := hid hfd; have HFR := hid hfr
  clear hwb hfb hbx hub hfd hfr
  go_region_held3 (fun W => W.cell? ⟨fb, 2, none⟩ = some (.string o.name))
    (first
      | go_keep
      | (first | (rw [World.cell?_of_block (w := w2) (a := ⟨fb, 2, none⟩) (hr2.upd.block fb hfl2 HFR.out)]; assumption) | (rw [World.cell?_of_block (w := wb.drew) (a := ⟨fb, 2, none⟩) (hst.upd.block fb (by simpa using hfl) HFD.out)]; assumption)))
    (first
      | (go_at_call 66; refine (HD.out _ HUB.out).mono ?_; rintro e w2 ⟨rfl, s2, hst, habs⟩; have hfl2 : fb < w2.heap.size := Nat.lt_of_lt_of_le (by simpa using hfl) hst.upd.size)
      | (go_at_call 9; refine (num_any _ _).mono ?_; rintro e w' ⟨rfl, hww⟩; obtain rfl := hww.symm)
      | (go_at_call 67; refine (HR.out _ _ _ HUB.out hst habs).mono ?_; rintro e w3 ⟨rfl, r2, hr2, hal, hso⟩)
      | fail)
  all_goals
    have HF := hid (((HW.out.keep HUB.out).both hi hi' hst hr2 hal hso))
    have HCM := hid (fun hc : Calm S => hc.set hi (by have h := cCreate_calm (hc i hi) o.name; rw [← habs] at h; exact h) S.b (S.rs.set i r2))
    have HTN := hid (((Turn.keep w.heap.size S HUB.out).trans (Turn.stepD HUB.out.size hi hst)).trans (Turn.stepR (S := { S with ds := S.ds.set i s2 }) (Nat.le_trans HUB.out.size hst.upd.size) hi' hr2))
    clear hst hr2 hal hso habs
    go_wp2
    go_ret
    exact ⟨rfl, _, HF.out, rfl, by simp, rfl, HCM.out, HTN.out⟩

set_option maxRecDepth 100000 in
set_option maxHeartbeats 3200000 in
theorem acts_sync {w0 w : World} {S : WS} {o : OpI} {i : Nat} (hw : WOn w0 w S) (hi : i < S.ds.length) (hi' : i < S.rs.length) (ho : OpShapes o) (hk : o.kind = 3) :
    Calls Tryz.prog 45 #[.pointer (some ⟨S.p, 0, none⟩), .agg o.cells, ptrD S.ds[i], ptrR S.rs[i]] w fun e w' => Acted w0 w S e w' := by
  obtain ⟨ba, bc, ca, cl, cc, fa, fl, fc, hb1, hc1, hf1⟩ := ho.get
  have hcells : o.cells = #[.int .i64 3, .int .i64 o.obj, .string o.name, .string o.dest, .slice ba o.bs.length bc, .int .i64 o.pos, .int .i64 o.n, .slice ca cl cc, .slice fa fl fc] := by unfold OpI.cells; rw [hk, hb1, hc1, hf1]
  rw [hcells]
  have HD := hid (show ∀ W, Upd (fun _ => False) w W → Calls Tryz.prog 68 #[.pointer (some ⟨S.ds[i].p, 0, none⟩), .string o.name] W fun e W' => e = .returned (.int .i64 (cSync S.ds[i].abs o.name).1) ∧ ∃ s2, Step W W' S.ds[i] s2 ∧ s2.abs = (cSync S.ds[i].abs o.name).2 from fun W hW => by
    have h := sync_any ((hw.mem.keep hW).dsIn i hi) o.name
    rw [syncA_c] at h
    exact h)
  have HR := hid (show ∀ W W1 s2, Upd (fun _ => False) w W → Step W W1 S.ds[i] s2 → s2.abs = (cSync S.ds[i].abs o.name).2 → Calls Tryz.prog 69 #[.pointer (some ⟨S.rs[i].p, 0, none⟩), .string o.name] W1 fun e W' => e = .returned (.int .i64 (cSync S.ds[i].abs o.name).1) ∧ ∃ r2, RStep W1 W' S.rs[i] r2 ∧ Alike s2.abs r2.abs ∧ Sorted r2.F from fun W W1 s2 hW hst habs => by
    have hk := hw.keep hW
    have m1 := hk.mem.stepD hk.upd.size hi hst
    obtain ⟨hal, hso⟩ := hw.pair i hi hi'
    have hnd : NamesND S.ds[i].abs := names_nodup (hw.mem.dsIn i hi)
    have hc := cSync_alike hal hnd o.name
    refine (refSync_any (m1.rsIn i hi') hso o.name).mono ?_
    rintro e W' ⟨rfl, r2, h1, h2, h3⟩
    exact ⟨by rw [hc.1], r2, h1, habs ▸ hc.2.trans h2.symm, h3⟩)
  have HW := hid hw
  unfold ptrD ptrR
  obtain ⟨dp, hdp⟩ : ∃ dp, dp = S.ds[i].p := ⟨_, rfl⟩
  obtain ⟨rp, hrp⟩ : ∃ rp, rp = S.rs[i].p := ⟨_, rfl⟩
  obtain ⟨c, hc⟩ : ∃ c, c = (cSync S.ds[i].abs o.name).1 := ⟨_, rfl⟩
  rw [← hdp] at HD ⊢
  rw [← hrp] at HR ⊢
  rw [← hc] at HD HR
  clear hw ho hb1 hc1 hf1 hcells hdp hrp hc hk
  go_enter Tryz.func45, Tryz.ntmps45
  go_wp2_with fail
  obtain ⟨wb, hwb⟩ : ∃ wb, wb = w.alloc (.cells #[.int .i64 3, .int .i64 o.obj, .string o.name, .string o.dest, .slice ba o.bs.length bc, .int .i64 o.pos, .int .i64 o.n, .slice ca cl cc, .slice fa fl fc] 42) := ⟨_, rfl⟩
  rw [← hwb]
  obtain ⟨fb, hfb⟩ : ∃ fb, fb = w.heap.size := ⟨_, rfl⟩
  rw [← hfb]
  have hbx : wb.heap[fb]? = some (.cells #[.int .i64 3, .int .i64 o.obj, .string o.name, .string o.dest, .slice ba o.bs.length bc, .int .i64 o.pos, .int .i64 o.n, .slice ca cl cc, .slice fa fl fc] 42 (0, 0)) := by rw [hwb, hfb]; exact heap_alloc_new w _
  have b2 : wb.cell? ⟨fb, 2, none⟩ = some (.string o.name) := by rw [cell_of_row wb _ 2 _ _ _ hbx]; rfl
  have hub : Upd (fun _ => False) w wb.drew := by rw [hwb]; exact ((Upd.refl _ _).alloc _).drew
  have hfd : ¬ fb ∈ S.ds[i].blocks := fun hm => by have := (HW.out.mem.dsIn i hi).lt fb hm; omega
  have hfr : ¬ S.rs[i].own fb := fun hm => by have := (HW.out.mem.rsIn i hi').lt hm; omega
  have hfl : fb < wb.heap.size := lt_of_heap hbx
  have HUB := hid hub; have HFD := hid hfd; have HFR := hid hfr
  clear hwb hfb hbx hub hfd hfr
  go_region_held3 (fun W => W.cell? ⟨fb, 2, none⟩ = some (.string o.name))
    (first
      | go_keep
      | (first | (rw [World.cell?_of_block (w := w2) (a := ⟨fb, 2, none⟩) (hr2.upd.block fb hfl2 HFR.out)]; assumption) | (rw [World.cell?_of_block (w := wb.drew) (a := ⟨fb, 2, none⟩) (hst.upd.block fb (by simpa using hfl) HFD.out)]; assumption)))
    (first
      | (go_at_call 68; refine (HD.out _ HUB.out).mono ?_; rintro e w2 ⟨rfl, s2, hst, habs⟩; have hfl2 : fb < w2.heap.size := Nat.lt_of_lt_of_le (by simpa using hfl) hst.upd.size)
      | (go_at_call 9; refine (num_any _ _).mono ?_; rintro e w' ⟨rfl, hww⟩; obtain rfl := hww.symm)
      | (go_at_call 69; refine (HR.out _ _ _ HUB.out hst habs).mono ?_; rintro e w3 ⟨rfl, r2, hr2, hal, hso⟩)
      | fail)
  all_goals
    have HF := hid (((HW.out.keep HUB.out).both hi hi' hst hr2 hal hso))
    have HCM := hid (fun hc : Calm S => hc.set hi (by have h := cSync_calm (hc i hi) o.name; rw [← habs] at h; exact h) S.b (S.rs.set i r2))
    have HTN := hid (((Turn.keep w.heap.size S HUB.out).trans (Turn.stepD HUB.out.size hi hst)).trans (Turn.stepR (S := { S with ds := S.ds.set i s2 }) (Nat.le_trans HUB.out.size hst.upd.size) hi' hr2))
    clear hst hr2 hal hso habs
    go_wp2
    go_ret
    exact ⟨rfl, _, HF.out, rfl, by simp, rfl, HCM.out, HTN.out⟩

set_option maxRecDepth 100000 in
set_option maxHeartbeats 3200000 in
theorem acts_rename {w0 w : World} {S : WS} {o : OpI} {i : Nat} (hw : WOn w0 w S) (hi : i < S.ds.length) (hi' : i < S.rs.length) (ho : OpShapes o) (hk : o.kind = 4) :
    Calls Tryz.prog 45 #[.pointer (some ⟨S.p, 0, none⟩), .agg o.cells, ptrD S.ds[i], ptrR S.rs[i]] w fun e w' => Acted w0 w S e w' := by
  obtain ⟨ba, bc, ca, cl, cc, fa, fl, fc, hb1, hc1, hf1⟩ := ho.get
  have hcells : o.cells = #[.int .i64 4, .int .i64 o.obj, .string o.name, .string o.dest, .slice ba o.bs.length bc, .int .i64 o.pos, .int .i64 o.n, .slice ca cl cc, .slice fa fl fc] := by unfold OpI.cells; rw [hk, hb1, hc1, hf1]
  rw [hcells]
  have HD := hid (show ∀ W, Upd (fun _ => False) w W → Calls Tryz.prog 70 #[.pointer (some ⟨S.ds[i].p, 0, none⟩), .string o.name, .string o.dest] W fun e W' => e = .returned (.int .i64 (cRename S.ds[i].abs o.name o.dest).1) ∧ ∃ s2, Step W W' S.ds[i] s2 ∧ s2.abs = (cRename S.ds[i].abs o.name o.dest).2 from fun W hW => by
    have h := rename_any ((hw.mem.keep hW).dsIn i hi) o.name o.dest
    rw [renameA_c] at h
    exact h)
  have HR := hid (show ∀ W W1 s2, Upd (fun _ => False) w W → Step W W1 S.ds[i] s2 → s2.abs = (cRename S.ds[i].abs o.name o.dest).2 → Calls Tryz.prog 71 #[.pointer (some ⟨S.rs[i].p, 0, none⟩), .string o.name, .string o.dest] W1 fun e W' => e = .returned (.int .i64 (cRename S.ds[i].abs o.name o.dest).1) ∧ ∃ r2, RStep W1 W' S.rs[i] r2 ∧ Alike s2.abs r2.abs ∧ Sorted r2.F from fun W W1 s2 hW hst habs => by
    have hk := hw.keep hW
    have m1 := hk.mem.stepD hk.upd.size hi hst
    obtain ⟨hal, hso⟩ := hw.pair i hi hi'
    have hnd : NamesND S.ds[i].abs := names_nodup (hw.mem.dsIn i hi)
    have hc := cRename_alike hal hnd o.name o.dest
    refine (refRename_any (m1.rsIn i hi') hso o.name o.dest).mono ?_
    rintro e W' ⟨rfl, r2, h1, h2, h3⟩
    exact ⟨by rw [hc.1], r2, h1, habs ▸ hc.2.trans h2.symm, h3⟩)
  have HW := hid hw
  unfold ptrD ptrR
  obtain ⟨dp, hdp⟩ : ∃ dp, dp = S.ds[i].p := ⟨_, rfl⟩
  obtain ⟨rp, hrp⟩ : ∃ rp, rp = S.rs[i].p := ⟨_, rfl⟩
  obtain ⟨c, hc⟩ : ∃ c, c = (cRename S.ds[i].abs o.name o.dest).1 := ⟨_, rfl⟩
  rw [← hdp] at HD ⊢
  rw [← hrp] at HR ⊢
  rw [← hc] at HD HR
  clear hw ho hb1 hc1 hf1 hcells hdp hrp hc hk
  go_enter Tryz.func45, Tryz.ntmps45
  go_wp2_with fail
  obtain ⟨wb, hwb⟩ : ∃ wb, wb = w.alloc (.cells #[.int .i64 4, .int .i64 o.obj, .string o.name, .string o.dest, .slice ba o.bs.length bc, .int .i64 o.pos, .int .i64 o.n, .slice ca cl cc, .slice fa fl fc] 42) := ⟨_, rfl⟩
  rw [← hwb]
  obtain ⟨fb, hfb⟩ : ∃ fb, fb = w.heap.size := ⟨_, rfl⟩
  rw [← hfb]
  have hbx : wb.heap[fb]? = some (.cells #[.int .i64 4, .int .i64 o.obj, .string o.name, .string o.dest, .slice ba o.bs.length bc, .int .i64 o.pos, .int .i64 o.n, .slice ca cl cc, .slice fa fl fc] 42 (0, 0)) := by rw [hwb, hfb]; exact heap_alloc_new w _
  have b2 : wb.cell? ⟨fb, 2, none⟩ = some (.string o.name) := by rw [cell_of_row wb _ 2 _ _ _ hbx]; rfl
  have b3 : wb.cell? ⟨fb, 3, none⟩ = some (.string o.dest) := by rw [cell_of_row wb _ 3 _ _ _ hbx]; rfl
  have hub : Upd (fun _ => False) w wb.drew := by rw [hwb]; exact ((Upd.refl _ _).alloc _).drew
  have hfd : ¬ fb ∈ S.ds[i].blocks := fun hm => by have := (HW.out.mem.dsIn i hi).lt fb hm; omega
  have hfr : ¬ S.rs[i].own fb := fun hm => by have := (HW.out.mem.rsIn i hi').lt hm; omega
  have hfl : fb < wb.heap.size := lt_of_heap hbx
  have HUB := hid hub; have HFD := hid hfd; have HFR := hid hfr
  clear hwb hfb hbx hub hfd hfr
  go_region_held3 (fun W => W.cell? ⟨fb, 2, none⟩ = some (.string o.name) ∧ W.cell? ⟨fb, 3, none⟩ = some (.string o.dest))
    (first
      | go_keep
      | (go_split_ands
         refine ⟨?_, ?_⟩
         · (first | (rw [World.cell?_of_block (w := w2) (a := ⟨fb, 2, none⟩) (hr2.upd.block fb hfl2 HFR.out)]; assumption) | (rw [World.cell?_of_block (w := wb.drew) (a := ⟨fb, 2, none⟩) (hst.upd.block fb (by simpa using hfl) HFD.out)]; assumption))
         · (first | (rw [World.cell?_of_block (w := w2) (a := ⟨fb, 3, none⟩) (hr2.upd.block fb hfl2 HFR.out)]; assumption) | (rw [World.cell?_of_block (w := wb.drew) (a := ⟨fb, 3, none⟩) (hst.upd.block fb (by simpa using hfl) HFD.out)]; assumption))))
    (first
      | (go_at_call 70; refine (HD.out _ HUB.out).mono ?_; rintro e w2 ⟨rfl, s2, hst, habs⟩; have hfl2 : fb < w2.heap.size := Nat.lt_of_lt_of_le (by simpa using hfl) hst.upd.size)
      | (go_at_call 9; refine (num_any _ _).mono ?_; rintro e w' ⟨rfl, hww⟩; obtain rfl := hww.symm)
      | (go_at_call 71; refine (HR.out _ _ _ HUB.out hst habs).mono ?_; rintro e w3 ⟨rfl, r2, hr2, hal, hso⟩)
      | fail)
  all_goals
    have HF := hid (((HW.out.keep HUB.out).both hi hi' hst hr2 hal hso))
    have HCM := hid (fun hc : Calm S => hc.set hi (by have h := cRename_calm (hc i hi) o.name o.dest; rw [← habs] at h; exact h) S.b (S.rs.set i r2))
    have HTN := hid (((Turn.keep w.heap.size S HUB.out).trans (Turn.stepD HUB.out.size hi hst)).trans (Turn.stepR (S := { S with ds := S.ds.set i s2 }) (Nat.le_trans HUB.out.size hst.upd.size) hi' hr2))
    clear hst hr2 hal hso habs
    go_wp2
    go_ret
    exact ⟨rfl, _, HF.out, rfl, by simp, rfl, HCM.out, HTN.out⟩

set_option maxRecDepth 100000 in
set_option maxHeartbeats 3200000 in
theorem acts_delete {w0 w : World} {S : WS} {o : OpI} {i : Nat} (hw : WOn w0 w S) (hi : i < S.ds.length) (hi' : i < S.rs.length) (ho : OpShapes o) (hk : o.kind = 5) :
    Calls Tryz.prog 45 #[.pointer (some ⟨S.p, 0, none⟩), .agg o.cells, ptrD S.ds[i], ptrR S.rs[i]] w fun e w' => Acted w0 w S e w' := by
  obtain ⟨ba, bc, ca, cl, cc, fa, fl, fc, hb1, hc1, hf1⟩ := ho.get
  have hcells : o.cells = #[.int .i64 5, .int .i64 o.obj, .string o.name, .string o.dest, .slice ba o.bs.length bc, .int .i64 o.pos, .int .i64 o.n, .slice ca cl cc, .slice fa fl fc] := by unfold OpI.cells; rw [hk, hb1, hc1, hf1]
  rw [hcells]
  have HD := hid (show ∀ W, Upd (fun _ => False) w W → Calls Tryz.prog 72 #[.pointer (some ⟨S.ds[i].p, 0, none⟩), .string o.name] W fun e W' => e = .returned (.int .i64 (cDelete S.ds[i].abs o.name).1) ∧ ∃ s2, Step W W' S.ds[i] s2 ∧ s2.abs = (cDelete S.ds[i].abs o.name).2 from fun W hW => by
    have h := delete_any ((hw.mem.keep hW).dsIn i hi) o.name
    rw [deleteA_c] at h
    exact h)
  have HR := hid (show ∀ W W1 s2, Upd (fun _ => False) w W → Step W W1 S.ds[i] s2 → s2.abs = (cDelete S.ds[i].abs o.name).2 → Calls Tryz.prog 73 #[.pointer (some ⟨S.rs[i].p, 0, none⟩), .string o.name] W1 fun e W' => e = .returned (.int .i64 (cDelete S.ds[i].abs o.name).1) ∧ ∃ r2, RStep W1 W' S.rs[i] r2 ∧ Alike s2.abs r2.abs ∧ Sorted r2.F from fun W W1 s2 hW hst habs => by
    have hk := hw.keep hW
    have m1 := hk.mem.stepD hk.upd.size hi hst
    obtain ⟨hal, hso⟩ := hw.pair i hi hi'
    have hnd : NamesND S.ds[i].abs := names_nodup (hw.mem.dsIn i hi)
    have hc := cDelete_alike hal hnd o.name
    refine (refDelete_any (m1.rsIn i hi') o.name).mono ?_
    rintro e W' ⟨rfl, r2, h1, h2, h3⟩
    exact ⟨by rw [hc.1], r2, h1, habs ▸ hc.2.trans h2.symm, h3 hso⟩)
  have HW := hid hw
  unfold ptrD ptrR
  obtain ⟨dp, hdp⟩ : ∃ dp, dp = S.ds[i].p := ⟨_, rfl⟩
  obtain ⟨rp, hrp⟩ : ∃ rp, rp = S.rs[i].p := ⟨_, rfl⟩
  obtain ⟨c, hc⟩ : ∃ c, c = (cDelete S.ds[i].abs o.name).1 := ⟨_, rfl⟩
  rw [← hdp] at HD ⊢
  rw [← hrp] at HR ⊢
  rw [← hc] at HD HR
  clear hw ho hb1 hc1 hf1 hcells hdp hrp hc hk
  go_enter Tryz.func45, Tryz.ntmps45
  go_wp2_with fail
  obtain ⟨wb, hwb⟩ : ∃ wb, wb = w.alloc (.cells #[.int .i64 5, .int .i64 o.obj, .string o.name, .string o.dest, .slice ba o.bs.length bc, .int .i64 o.pos, .int .i64 o.n, .slice ca cl cc, .slice fa fl fc] 42) := ⟨_, rfl⟩
  rw [← hwb]
  obtain ⟨fb, hfb⟩ : ∃ fb, fb = w.heap.size := ⟨_, rfl⟩
  rw [← hfb]
  have hbx : wb.heap[fb]? = some (.cells #[.int .i64 5, .int .i64 o.obj, .string o.name, .string o.dest, .slice ba o.bs.length bc, .int .i64 o.pos, .int .i64 o.n, .slice ca cl cc, .slice fa fl fc] 42 (0, 0)) := by rw [hwb, hfb]; exact heap_alloc_new w _
  have b2 : wb.cell? ⟨fb, 2, none⟩ = some (.string o.name) := by rw [cell_of_row wb _ 2 _ _ _ hbx]; rfl
  have hub : Upd (fun _ => False) w wb.drew := by rw [hwb]; exact ((Upd.refl _ _).alloc _).drew
  have hfd : ¬ fb ∈ S.ds[i].blocks := fun hm => by have := (HW.out.mem.dsIn i hi).lt fb hm; omega
  have hfr : ¬ S.rs[i].own fb := fun hm => by have := (HW.out.mem.rsIn i hi').lt hm; omega
  have hfl : fb < wb.heap.size := lt_of_heap hbx
  have HUB := hid hub; have HFD := hid hfd; have HFR := hid hfr
  clear hwb hfb hbx hub hfd hfr
  go_region_held3 (fun W => W.cell? ⟨fb, 2, none⟩ = some (.string o.name))
    (first
      | go_keep
      | (first | (rw [World.cell?_of_block (w := w2) (a := ⟨fb, 2, none⟩) (hr2.upd.block fb hfl2 HFR.out)]; assumption) | (rw [World.cell?_of_block (w := wb.drew) (a := ⟨fb, 2, none⟩) (hst.upd.block fb (by simpa using hfl) HFD.out)]; assumption)))
    (first
      | (go_at_call 72; refine (HD.out _ HUB.out).mono ?_; rintro e w2 ⟨rfl, s2, hst, habs⟩; have hfl2 : fb < w2.heap.size := Nat.lt_of_lt_of_le (by simpa using hfl) hst.upd.size)
      | (go_at_call 9; refine (num_any _ _).mono ?_; rintro e w' ⟨rfl, hww⟩; obtain rfl := hww.symm)
      | (go_at_call 73; refine (HR.out _ _ _ HUB.out hst habs).mono ?_; rintro e w3 ⟨rfl, r2, hr2, hal, hso⟩)
      | fail)
  all_goals
    have HF := hid (((HW.out.keep HUB.out).both hi hi' hst hr2 hal hso))
    have HCM := hid (fun hc : Calm S => hc.set hi (by have h := cDelete_calm (hc i hi) o.name; rw [← habs] at h; exact h) S.b (S.rs.set i r2))
    have HTN := hid (((Turn.keep w.heap.size S HUB.out).trans (Turn.stepD HUB.out.size hi hst)).trans (Turn.stepR (S := { S with ds := S.ds.set i s2 }) (Nat.le_trans HUB.out.size hst.upd.size) hi' hr2))
    clear hst hr2 hal hso habs
    go_wp2
    go_ret
    exact ⟨rfl, _, HF.out, rfl, by simp, rfl, HCM.out, HTN.out⟩

end Go.Proofs.YtohpgmeflmppaaaGreat
