/-
  Package disk, walked: List, Arm, Counts, New.
  Package disk, walked: Files.
-/
import Derived.Test.YtgaidmohdhaonaaDoorGD
import Derived.Deep.RegionHeld3
import Derived.Deep.AppendLies
namespace Go.Proofs.YtgaidmohdhaonaaDoor
set_option linter.unusedVariables false
set_option linter.unusedSimpArgs false
set_option linter.unnecessarySimpa false
set_option linter.unusedSectionVars false
open Go Go.RowKit

/-- The shape of a row that reads as a list of one-cell values. -/
theorem owns_shape {w : World} {base : Nat} {e : TypeId} {n : Nat} {v : Value} {xs : List Value} (h : w.ownsRow base e 1 v n xs) : ∃ ao cap, v = .slice ao n cap ∧ n = xs.length ∧
    ∀ k (hk : k < n), ∃ g, ao = some ⟨g, 0, none⟩ ∧ base ≤ g ∧ g < w.heap.size ∧ ∀ j (hj : j < xs.length), w.cell? ⟨g, j, none⟩ = some xs[j] := by
  obtain ⟨hl, h⟩ := h
  have hn : n = xs.length := by simpa using hl.symm
  rcases h with ⟨rfl, rfl⟩ | ⟨g, cap, cur, rfl, hb, hg, h2, h3, h4, h5⟩
  · exact ⟨none, 0, rfl, hn, fun k hk => absurd hk (by omega)⟩
  · refine ⟨some ⟨g, 0, none⟩, cap, rfl, hn, fun k hk => ⟨g, rfl, hb, lt_of_heap hg, fun j hj => ?_⟩⟩
    rw [cell_of_row w g j cur _ _ hg, ← Array.getElem?_toList]
    have := congrArg (fun l => l[j]?) h5
    simp only [List.getElem?_take, Nat.mul_one, List.getElem?_eq_getElem hj] at this
    rw [if_pos (by omega)] at this
    exact this

def hasPre (p : ByteArray) (s : ByteArray) : Bool := Lib.hasPrefix s.data.toList p.data.toList
def listNames (s : DS) (p : ByteArray) : List ByteArray := (sortNames s.names).filter (hasPre p)

theorem filter_take_step (f : ByteArray → Bool) (l : List ByteArray) (k : Nat) (h : k < l.length) : (l.take (k + 1)).filter f = (l.take k).filter f ++ (if f l[k] then [l[k]] else []) := by
  rw [List.take_succ_eq_append_getElem h, List.filter_append]
  congr 1
  by_cases hf : f l[k] = true <;> simp [List.filter_cons, hf]

/-- An empty disk. -/
def newA (cap : Nat) : DiskA := ⟨cap, [], false, 0, ⟨0, 0, 0, 0, 0, 0⟩⟩

set_option maxRecDepth 100000 in
theorem new_no (w : World) (n : Int) (hn : n < 0 ∨ 67108864 < n) :
    Calls Tryd.prog 26 #[.int .i64 n] w fun e w' => e = .returned (.tuple #[.pointer none, .int .i64 1]) ∧ w' = w := by
  rcases hn with h | h
  · go_enter Tryd.func26, Tryd.ntmps26
    go_wp2
    go_ret2
    exact ⟨rfl, rfl⟩
  · have h' : ¬ n < 0 := by omega
    go_enter Tryd.func26, Tryd.ntmps26
    go_wp2
    go_ret2
    exact ⟨rfl, rfl⟩

set_option maxRecDepth 100000 in
theorem new_yes (w : World) (n : Nat) (hn : n ≤ 67108864) :
    Calls Tryd.prog 26 #[.int .i64 n] w fun e w' => ∃ s : DS, e = .returned (.tuple #[.pointer (some ⟨s.p, 0, none⟩), .int .i64 0]) ∧ s.In w' ∧ s.abs = newA n ∧ (∀ k ∈ s.blocks, w.heap.size ≤ k) ∧ Upd (fun _ => False) w w' := by
  have hmm := @run_makeMap Tryd.prog
  have h1 : ¬ ((n : Int) < 0) := by omega
  have h2 : ¬ (67108864 < (n : Int)) := by omega
  go_enter Tryd.func26, Tryd.ntmps26
  go_wp2
  go_ret2
  refine ⟨⟨w.heap.size + 1, w.heap.size, n, [], false, 0, ⟨0, 0, 0, 0, 0, 0⟩⟩, rfl, ⟨?_, ?_, by simp, by simp, by simp [DS.blocks, recBlocks], by simp, by simp [DS.used, usedOf], hn, by simp, trivial⟩, rfl, ?_, ((Upd.refl _ _).alloc _).alloc _⟩
  · have h := heap_alloc_new (w.alloc (.map #[] 0)) (.cells #[.int .i64 n, .int .i64 0, .map (some w.heap.size), .bool false, .int .i64 0, .int .i64 0, .int .i64 0, .int .i64 0, .int .i64 0, .int .i64 0, .int .i64 0] 82)
    rw [World.size_alloc] at h
    exact h
  · exact (MapIs.made w).of_block (heap_alloc_past _ _ _ (by simp))
  · intro k hk
    simp [DS.blocks, recBlocks] at hk
    omega

end Go.Proofs.YtgaidmohdhaonaaDoor

namespace Go.Proofs.YtgaidmohdhaonaaDoor
set_option linter.unusedVariables false
set_option linter.unusedSimpArgs false
set_option linter.unnecessarySimpa false
set_option linter.unusedSectionVars false
open Go Go.RowKit

/-- bytes.Clone of what reads as bs. -/
theorem clone_any {w : World} {v : Value} {bs : List UInt8} (hv : BytesAt w v bs) (hl : bs.length ≤ 140737488355328) :
    Calls Tryd.prog 38 #[v] w fun e w' => ∃ v', e = .returned v' ∧ DataIs w' v' bs ∧ (∀ k, v'.ownBlock = some k → w.heap.size ≤ k) ∧ Below w.heap.size w w' := by
  obtain ⟨ao, cap, rfl, hn, hs⟩ := hv
  cases ao with
  | none =>
    obtain ⟨rfl, rfl⟩ := hn rfl
    refine (Tryd.bytes_Clone_nil _ _ _).mono ?_
    rintro e w' ⟨rfl, rfl⟩
    exact ⟨_, rfl, .inl ⟨rfl, rfl⟩, by simp [Value.ownBlock], Below.refl _ _⟩
  | some a =>
    refine (Tryd.bytes_Clone_at a bs.length cap (bs.map (fun b => (b.toNat : Int))) w (by simp) hl ?_).mono ?_
    · intro i hi
      have := hs a rfl i (byteV bs[i]) (by rw [List.getElem?_map, List.getElem?_eq_getElem hi]; rfl)
      rw [this, List.getD_eq_getElem?_getD, List.getElem?_map, List.getElem?_eq_getElem hi]
      rfl
    · rintro e w' ⟨v', rfl, hown, -, hb⟩
      refine ⟨v', rfl, ?_, fun k hk => (hown.lt k hk).1, hb⟩
      rw [List.map_map] at hown
      exact DataIs.of_owns hown

/-- A file that was told: its name, its bytes and where they lie, how many are synced. -/
structure FV where
  name : ByteArray
  dv : Value
  data : List UInt8
  synced : Nat

def FV.cells (f : FV) : List Value := [.string f.name, f.dv, .int .i64 f.synced]
def FV.abs (f : FV) : FileA := ⟨f.name, f.data, f.synced⟩
def fvBlocks (l : List FV) : List Nat := l.flatMap (fun f => f.dv.ownBlock.toList)

theorem DataIs.upd {S : Nat → Prop} {w w' : World} {v : Value} {bs : List UInt8} (h : DataIs w v bs) (hu : Upd S w w') (hn : ∀ k, v.ownBlock = some k → ¬ S k) : DataIs w' v bs :=
  h.of_block (fun k hk => hu.block k (h.lt k hk) (hn k hk))

theorem mem_fvBlocks {l : List FV} {k : Nat} : k ∈ fvBlocks l ↔ ∃ f ∈ l, f.dv.ownBlock = some k := by simp [fvBlocks]

/-- All files, by their names. -/
def fileList (s : DS) : List FileA := (sortNames s.names).filterMap (fun n => (s.fileAt n).map FRec.abs)

theorem fileAt_of_name {s : DS} {n : ByteArray} (h : n ∈ s.names) : ∃ r, s.fileAt n = some r := by
  cases hf : s.fileAt n with
  | some r => exact ⟨r, rfl⟩
  | none =>
    obtain ⟨r, hr, hn⟩ := List.mem_map.1 h
    exact absurd hn (fileAt_none hf r hr)

theorem filterMap_take_step {α β : Type} (f : α → Option β) (l : List α) (k : Nat) (h : k < l.length) {y : β} (hy : f l[k] = some y) : (l.take (k + 1)).filterMap f = (l.take k).filterMap f ++ [y] := by
  rw [List.take_succ_eq_append_getElem h, List.filterMap_append]
  simp [hy]

end Go.Proofs.YtgaidmohdhaonaaDoor
