/-
  Words and laws on worlds that the texts of this seat share: what a step has turned, maps keyed by strings, slices. No program stands in it.
  Names in their order; the world behind the library's sort. No program stands here.
  Package disk's 'named': which texts are names.
-/
import Derived.WalkKit
import Derived.Deep.QuietTactic
import Derived.BigQuiet
import Derived.MapKept
import Derived.Sort.EncStr
import Derived.Sort.Grow
import Derived.Test.YtgaidmohdhaonaaGreatDoorProg
import Derived.Test.YtgaidmohdhaonaaGreatDoorShelf
import Derived.Handy
import Derived.Outline

namespace Go.Proofs.YtgaidmohdhaonaaGreatDoor
set_option linter.unusedVariables false
set_option linter.unusedSimpArgs false
set_option linter.unnecessarySimpa false
set_option linter.unusedSectionVars false
open Go Go.RowKit

/-- The world w' is w but for the blocks in S and for new ones. -/
structure Upd (S : Nat → Prop) (w w' : World) : Prop where
  os : w'.os = w.os
  tape : w'.tape = w.tape
  output : w'.output = w.output
  size : w.heap.size ≤ w'.heap.size
  block : ∀ k, k < w.heap.size → ¬ S k → w'.heap[k]? = w.heap[k]?

namespace Upd
variable {S T : Nat → Prop} {a w w' : World}

theorem refl (S : Nat → Prop) (w : World) : Upd S w w := ⟨rfl, rfl, rfl, Nat.le_refl _, fun _ _ _ => rfl⟩

theorem mono (h : Upd S w w') (hST : ∀ k, k < w.heap.size → S k → T k) : Upd T w w' :=
  ⟨h.os, h.tape, h.output, h.size, fun k hk hn => h.block k hk (fun hs => hn (hST k hk hs))⟩

/-- Two steps: the second may touch what is new behind the first. -/
theorem trans (h : Upd S a w) (h' : Upd T w w') (hTS : ∀ k, k < a.heap.size → T k → S k) : Upd S a w' :=
  ⟨h'.os.trans h.os, h'.tape.trans h.tape, h'.output.trans h.output, Nat.le_trans h.size h'.size,
    fun k hk hn => (h'.block k (Nat.lt_of_lt_of_le hk h.size) (fun ht => hn (hTS k hk ht))).trans (h.block k hk hn)⟩

theorem drew (h : Upd S a w) : Upd S a w.drew := ⟨h.os, h.tape, h.output, h.size, h.block⟩
theorem drewN (h : Upd S a w) (n : Nat) : Upd S a (w.drewN n) := ⟨h.os, h.tape, h.output, h.size, h.block⟩

theorem alloc (h : Upd S a w) (o : Obj) : Upd S a (w.alloc o) :=
  ⟨h.os, h.tape, h.output, Nat.le_trans h.size (by simp), fun k hk hn => (Below.heap_alloc _ _ _ (Nat.lt_of_lt_of_le hk h.size)).trans (h.block k hk hn)⟩

theorem setCell (h : Upd S a w) {p : Addr} (hp : p.block < a.heap.size → S p.block) (u : Value) : Upd S a (w.setCell p u) :=
  ⟨h.os, h.tape, h.output, by simpa using h.size, fun k hk hn => by
    by_cases e : k = p.block
    · subst e; exact absurd (hp hk) hn
    · exact (Below.heap_setCell _ _ _ _ e).trans (h.block k hk hn)⟩

theorem setBlock (h : Upd S a w) {b : Nat} (hb : b < a.heap.size → S b) (o : Obj) : Upd S a { w with heap := w.heap.setIfInBounds b o } :=
  ⟨h.os, h.tape, h.output, by simpa using h.size, fun k hk hn => by
    by_cases e : k = b
    · subst e; exact absurd (hb hk) hn
    · show (w.heap.setIfInBounds b o)[k]? = _
      rw [Array.getElem?_setIfInBounds_ne (Ne.symm e)]
      exact h.block k hk hn⟩

theorem block_only (w : World) (b : Nat) (o : Obj) : Upd (fun k => k = b) w { w with heap := w.heap.setIfInBounds b o } := (Upd.refl (fun k => k = b) w).setBlock (fun _ => rfl) o

theorem cell_only (w : World) (b i : Nat) (v : Value) : Upd (fun k => k = b) w (w.setCell ⟨b, i, none⟩ v) := (Upd.refl (fun k => k = b) w).setCell (p := ⟨b, i, none⟩) (fun _ => rfl) v

theorem grown (h : Upd S a w) {row : Option Nat} (hg : w.grownBy w' row) (hr : ∀ k, row = some k → k < a.heap.size → S k) : Upd S a w' :=
  ⟨hg.os.trans h.os, hg.tape.trans h.tape, hg.output.trans h.output, Nat.le_trans h.size hg.size,
    fun k hk hn => (hg.block k (Nat.lt_of_lt_of_le hk h.size) (fun e => hn (hr k e.symm hk))).trans (h.block k hk hn)⟩

theorem of_below (h : Below w.heap.size w w') : Upd S w w' := ⟨h.os, h.tape, h.output, h.size, fun k hk _ => h.block k hk⟩

theorem below {B : Nat} (h : Upd S w w') (hB : B ≤ w.heap.size) (hS : ∀ k, S k → B ≤ k) : Below B w w' :=
  ⟨h.os, h.tape, h.output, h.size, fun k hk => h.block k (Nat.lt_of_lt_of_le hk hB) (fun hs => absurd (hS k hs) (by omega))⟩

theorem get (h : Upd S w w') {k : Nat} {o : Obj} (hk : w.heap[k]? = some o) (hn : ¬ S k) : w'.heap[k]? = some o :=
  (h.block k (Array.getElem?_eq_some_iff.1 hk).1 hn).trans hk
end Upd

theorem lt_of_heap {w : World} {k : Nat} {o : Obj} (h : w.heap[k]? = some o) : k < w.heap.size := (Array.getElem?_eq_some_iff.1 h).1

theorem owns_upd {S : Nat → Prop} {w w' : World} {base : Nat} {e : TypeId} {sz n : Nat} {v : Value} {xs : List Value} (h : w.ownsRow base e sz v n xs) (hu : Upd S w w') (hn : ∀ k, v.ownBlock = some k → ¬ S k) : w'.ownsRow base e sz v n xs := by
  obtain ⟨hl, h⟩ := h
  refine ⟨hl, ?_⟩
  rcases h with h | ⟨g, cap, cur, rfl, hb, hg, r⟩
  · exact .inl h
  · exact .inr ⟨g, cap, cur, rfl, hb, hu.get hg (hn g rfl), r⟩

/-! ### A block behind new blocks, stores and draws -/
theorem heap_alloc_past (w : World) (o : Obj) (k : Nat) (h : k < w.heap.size) : (w.alloc o).heap[k]? = w.heap[k]? := Below.heap_alloc _ _ _ h
theorem heap_setCell_ne (w : World) (a : Addr) (v : Value) (k : Nat) (h : k ≠ a.block) : (w.setCell a v).heap[k]? = w.heap[k]? := Below.heap_setCell _ _ _ _ h
theorem heap_drew' (w : World) (k : Nat) : w.drew.heap[k]? = w.heap[k]? := rfl
theorem heap_drewN' (w : World) (n k : Nat) : (w.drewN n).heap[k]? = w.heap[k]? := rfl
theorem heap_setCell_at (w : World) (b i : Nat) (cs : Array Value) (t : TypeId) (v : Value) (h : w.heap[b]? = some (.cells cs t (0, 0))) : (w.setCell ⟨b, i, none⟩ v).heap[b]? = some (.cells (cs.setIfInBounds i v) t (0, 0)) := by
  simp [World.setCell, Array.getElem?_modify, h]

theorem cell_setCell_ne {w : World} {a b : Addr} (v : Value) (h : b.block ≠ a.block) : (w.setCell a v).cell? b = w.cell? b := World.cell?_of_block (heap_setCell_ne w a v b.block h)

/-! ### Maps keyed by strings: the entries, in their order -/
/-- Block m is a map that holds just these entries, in this order. -/
def MapIs (w : World) (m : Nat) (E : List (ByteArray × Value)) : Prop :=
  ∃ es clock, w.heap[m]? = some (.map es clock) ∧ es.toList.map (fun e => (e.key, e.val)) = E.map (fun p => (Value.string p.1, p.2)) ∧
    (es.toList.map (·.born)).Nodup ∧ ∀ e ∈ es.toList, e.born < clock

/-- What stands at a key. -/
def look (E : List (ByteArray × Value)) (k : ByteArray) : Option Value := (E.find? (fun p => p.1 == k)).map (·.2)
/-- The entry at a key gets a new value, in its place; a new key goes to the end. -/
def put : List (ByteArray × Value) → ByteArray → Value → List (ByteArray × Value)
  | [], k, v => [(k, v)]
  | p :: E, k, v => if p.1 = k then (p.1, v) :: E else p :: put E k v
def del : List (ByteArray × Value) → ByteArray → List (ByteArray × Value)
  | [], _ => []
  | p :: E, k => if p.1 = k then E else p :: del E k

theorem hid {p : Prop} (h : p) : Hid p := h

theorem beq_bytes (a b : ByteArray) : (a == b) = decide (a = b) := by
  by_cases h : a = b
  · subst h; simpa using (MapKept.bytes_beq a a).2 rfl
  · have : ¬ ((a == b) = true) := fun e => h ((MapKept.bytes_beq a b).1 e)
    simp [h, this]

theorem look_nil (k : ByteArray) : look [] k = none := rfl
theorem look_cons (p : ByteArray × Value) (E : List (ByteArray × Value)) (k : ByteArray) : look (p :: E) k = if p.1 = k then some p.2 else look E k := by
  unfold look
  rw [List.find?_cons]
  simp only [beq_bytes]
  by_cases h : p.1 = k <;> simp [h]

/-- An entry as key and value. -/
def kv (e : MapEntry) : Value × Value := (e.key, e.val)
def sv (p : ByteArray × Value) : Value × Value := (Value.string p.1, p.2)

theorem findNow_look (k : ByteArray) : ∀ (l : List MapEntry) (E : List (ByteArray × Value)) (i : Nat), l.map kv = E.map sv →
    (Instr.findNow .string (.string k) l i = some none ∧ look E k = none ∧ (∀ v, put E k v = E ++ [(k, v)]) ∧ del E k = E) ∨
    ∃ n e, Instr.findNow .string (.string k) l i = some (some (i + n, e.val)) ∧ look E k = some e.val ∧ l[n]? = some e ∧ e.key = .string k ∧
      (∀ v, (l.modify n fun e => { e with key := .string k, val := v }).map kv = (put E k v).map sv) ∧ (l.eraseIdx n).map kv = (del E k).map sv
  | [], E, i, h => by
    cases E with
    | nil => exact .inl ⟨rfl, rfl, fun _ => rfl, rfl⟩
    | cons p E => simp at h
  | e :: l, E, i, h => by
    cases E with
    | nil => simp at h
    | cons p E =>
      simp only [List.map_cons, List.cons.injEq, kv, sv, Prod.mk.injEq] at h
      obtain ⟨⟨hk, hv⟩, ht⟩ := h
      have hs : Instr.sameNow .string (.string k) e.key = some (decide (k = p.1)) := by rw [hk]; simp [Instr.sameNow, beq_bytes]
      by_cases he : k = p.1
      · refine .inr ⟨0, e, ?_, ?_, rfl, by rw [hk, he], ?_, ?_⟩
        · simp only [Instr.findNow, hs]; simp [he]
        · rw [look_cons, if_pos he.symm, hv]
        · intro v
          simp only [List.modify_zero_cons, put, if_pos he.symm, List.map_cons, kv, sv]
          rw [he]; exact congrArg _ ht
        · simp only [List.eraseIdx_zero, List.tail_cons, del, if_pos he.symm]; exact ht
      · have hne : ¬ p.1 = k := fun q => he q.symm
        rcases findNow_look k l E (i + 1) ht with ⟨h1, h2, h3, h4⟩ | ⟨n, e', h1, h2, h3, h4, h5, h6⟩
        · refine .inl ⟨?_, ?_, ?_, ?_⟩
          · simp only [Instr.findNow, hs]; simp [he, h1]
          · rw [look_cons, if_neg hne, h2]
          · intro v; simp [put, hne, h3]
          · simp [del, hne, h4]
        · refine .inr ⟨n + 1, e', ?_, ?_, by simpa using h3, h4, ?_, ?_⟩
          · simp only [Instr.findNow, hs]; simp [he, h1]; omega
          · rw [look_cons, if_neg hne, h2]
          · intro v
            simp only [List.modify_succ_cons, put, if_neg hne, List.map_cons, h5 v]
            rw [show kv e = sv p from by simp [kv, sv, hk, hv]]
          · simp only [List.eraseIdx_cons_succ, del, if_neg hne, List.map_cons, h6]
            rw [show kv e = sv p from by simp [kv, sv, hk, hv]]

section
variable {P : Program} {w : World} {T K EL : TypeId} {m : Nat} {E : List (ByteArray × Value)}

theorem run_checkKey_str (hk : P.underlying K = some .string) (b : Bool) (k : ByteArray) : (Instr.checkKey b 10000 K (.string k)).run P w = .ok () w := by
  unfold Instr.checkKey
  simp only [Sem.run_bind, run_underlying hk, Result.andThen, Sem.run_pure]

theorem MapIs.lt (h : MapIs w m E) : m < w.heap.size := by
  obtain ⟨es, c, h1, _⟩ := h
  exact lt_of_heap h1

theorem MapIs.of_block {w' : World} (h : MapIs w m E) (hb : w'.heap[m]? = w.heap[m]?) : MapIs w' m E := by
  obtain ⟨es, c, h1, h2, h3, h4⟩ := h
  exact ⟨es, c, hb.trans h1, h2, h3, h4⟩

theorem MapIs.upd {S : Nat → Prop} {w' : World} (h : MapIs w m E) (hu : Upd S w w') (hn : ¬ S m) : MapIs w' m E := h.of_block (hu.block m h.lt hn)

theorem MapIs.made (w : World) : MapIs (w.alloc (.map #[] 0)) w.heap.size [] := ⟨#[], 0, heap_alloc_new _ _, rfl, by simp, by simp⟩

theorem run_lookup_str (ht : P.underlying T = some (.map K EL)) (hk : P.underlying K = some .string) {z : Value} (hz : ∀ w, (zeroValue EL).run P w = .ok z w) (h : MapIs w m E) (k : ByteArray) :
    (Instr.lookup T (.map (some m)) (.string k) false).run P w = .ok ((look E k).getD z) w := by
  obtain ⟨es, c, h1, h2, _, _⟩ := h
  rcases findNow_look k es.toList E 0 h2 with ⟨g1, g2, _, _⟩ | ⟨n, e, g1, g2, _, _, _, _⟩
  · simp [Instr.lookup, run_underlying ht, MapKept.run_getObj_map h1, run_checkKey_str hk, MapKept.run_findKey hk g1, hz, g2, Result.andThen]
  · simp [Instr.lookup, run_underlying ht, MapKept.run_getObj_map h1, run_checkKey_str hk, MapKept.run_findKey hk g1, g2, Result.andThen]

theorem run_lookup_str_ok (ht : P.underlying T = some (.map K EL)) (hk : P.underlying K = some .string) {z : Value} (hz : ∀ w, (zeroValue EL).run P w = .ok z w) (h : MapIs w m E) (k : ByteArray) :
    (Instr.lookup T (.map (some m)) (.string k) true).run P w = .ok (.tuple #[(look E k).getD z, .bool (look E k).isSome]) w := by
  obtain ⟨es, c, h1, h2, _, _⟩ := h
  rcases findNow_look k es.toList E 0 h2 with ⟨g1, g2, _, _⟩ | ⟨n, e, g1, g2, _, _, _, _⟩
  · simp [Instr.lookup, run_underlying ht, MapKept.run_getObj_map h1, run_checkKey_str hk, MapKept.run_findKey hk g1, hz, g2, Result.andThen]
  · simp [Instr.lookup, run_underlying ht, MapKept.run_getObj_map h1, run_checkKey_str hk, MapKept.run_findKey hk g1, g2, Result.andThen]

theorem run_len_map (ht : P.underlying T = some (.map K EL)) (h : MapIs w m E) (ty : TypeId) :
    (Builtin.len_ #[T] ty #[.map (some m)]).run P w = .ok (.int .i64 E.length) w := by
  obtain ⟨es, c, h1, h2, _, _⟩ := h
  have hl : es.size = E.length := by have := congrArg List.length h2; simpa using this
  simp [Builtin.len_, run_underlying ht, MapKept.run_getObj_map h1, Result.andThen, goInt, hl]

theorem sameBits_str (k : ByteArray) : Instr.sameBits 10000 (.string k) (.string k) = true := by simp [Instr.sameBits, beq_bytes]

theorem map_born_modify (l : List MapEntry) (n : Nat) (k v : Value) : (l.modify n fun e => { e with key := k, val := v }).map (·.born) = l.map (·.born) := by
  induction l generalizing n with
  | nil => simp
  | cons e l ih => cases n with
    | zero => simp
    | succ n => simp [ih]

/-- 'm[k] = v'. -/
theorem run_mapUpdate_str (ht : P.underlying T = some (.map K EL)) (hk : P.underlying K = some .string) (h : MapIs w m E) (k : ByteArray) (v : Value) :
    ∃ w', (Instr.mapUpdate T (.map (some m)) (.string k) v).run P w = .ok () w' ∧ MapIs w' m (put E k v) ∧ Upd (fun b => b = m) w w' := by
  obtain ⟨es, c, h1, h2, h3, h4⟩ := h
  have hlt := lt_of_heap h1
  rcases findNow_look k es.toList E 0 h2 with ⟨g1, g2, g3, _⟩ | ⟨n, e, g1, g2, g3, g4, g5, _⟩
  · refine ⟨{ w with heap := w.heap.setIfInBounds m (.map (es.push { key := .string k, val := v, born := c }) (c + 1)) }, ?_, ⟨_, _, (MapKept.heap_set h1).1, ?_, ?_, ?_⟩, Upd.block_only _ _ _⟩
    · simp [Instr.mapUpdate, run_underlying ht, MapKept.run_getObj_map h1, run_checkKey_str hk, MapKept.run_findKey hk g1, MapKept.run_setObj_map _ h1, Result.andThen]
    · rw [g3 v]; simp only [Array.toList_push, List.map_append, List.map_cons, List.map_nil]; rw [h2]
    · simp only [Array.toList_push, List.map_append, List.map_cons, List.map_nil]
      rw [List.nodup_append]
      refine ⟨h3, by simp, ?_⟩
      intro a ha b hb
      simp only [List.mem_singleton] at hb
      subst hb
      obtain ⟨x, hx, rfl⟩ := List.mem_map.1 ha
      exact Nat.ne_of_lt (h4 x hx)
    · intro x hx
      simp only [Array.toList_push, List.mem_append, List.mem_singleton] at hx
      rcases hx with hx | rfl
      · exact Nat.lt_succ_of_lt (h4 x hx)
      · exact Nat.lt_succ_self _
  · have hkk : (((es[n]?).map (·.key)).getD (.string k)) = .string k := by
      have : es[n]? = some e := by simpa using g3
      rw [this]; simp [g4]
    have hst : (Instr.keyThatStays (.string k) (.string k)).run P w = .ok (.string k) w := by simp [Instr.keyThatStays, sameBits_str]
    refine ⟨{ w with heap := w.heap.setIfInBounds m (.map (es.modify n fun e => { e with key := .string k, val := v }) c) }, ?_, ⟨_, _, (MapKept.heap_set h1).1, ?_, ?_, ?_⟩, Upd.block_only _ _ _⟩
    · have hkk' : (Option.map (fun x => x.key) es[0 + n]?).getD (.string k) = .string k := by rw [Nat.zero_add]; exact hkk
      simp only [Nat.zero_add] at g1 hkk'
      simp [Instr.mapUpdate, run_underlying ht, MapKept.run_getObj_map h1, run_checkKey_str hk, MapKept.run_findKey hk g1, MapKept.run_setObj_map _ h1, Result.andThen, hkk', hst]
    · rw [Array.toList_modify]; exact g5 v
    · rw [Array.toList_modify, map_born_modify]; exact h3
    · intro x hx
      have hb : x.born ∈ es.toList.map (·.born) := by
        rw [← map_born_modify es.toList n (.string k) v, ← Array.toList_modify]
        exact List.mem_map.2 ⟨x, hx, rfl⟩
      obtain ⟨y, hy, e'⟩ := List.mem_map.1 hb
      rw [← e']; exact h4 y hy

/-- 'delete(m, k)'. -/
theorem run_delete_str (ht : P.underlying T = some (.map K EL)) (hk : P.underlying K = some .string) (h : MapIs w m E) (k : ByteArray) (ty : TypeId) (X : TypeId) :
    ∃ w', (Builtin.delete_ #[T, X] ty #[.map (some m), .string k]).run P w = .ok (.tuple #[]) w' ∧ MapIs w' m (del E k) ∧ Upd (fun b => b = m) w w' := by
  obtain ⟨es, c, h1, h2, h3, h4⟩ := h
  have hlt := lt_of_heap h1
  rcases findNow_look k es.toList E 0 h2 with ⟨g1, g2, _, g3⟩ | ⟨n, e, g1, g2, g3, g4, _, g6⟩
  · refine ⟨{ w with heap := w.heap.setIfInBounds m (.map es c) }, ?_, ⟨_, _, (MapKept.heap_set h1).1, ?_, h3, h4⟩, Upd.block_only _ _ _⟩
    · simp [Builtin.delete_, run_underlying ht, MapKept.run_getObj_map h1, run_checkKey_str hk, MapKept.run_findKey hk g1, MapKept.run_setObj_map _ h1, Result.andThen]
    · rw [g3]; exact h2
  · have hn : n < es.size := by
      have := (List.getElem?_eq_some_iff.1 g3).1
      simpa using this
    have hs : (es.eraseIdxIfInBounds n).toList.Sublist es.toList := by
      unfold Array.eraseIdxIfInBounds
      rw [dif_pos hn, Array.toList_eraseIdx]
      exact List.eraseIdx_sublist _ _
    refine ⟨{ w with heap := w.heap.setIfInBounds m (.map (es.eraseIdxIfInBounds n) c) }, ?_, ⟨_, _, (MapKept.heap_set h1).1, ?_, ?_, ?_⟩, Upd.block_only _ _ _⟩
    · simp only [Nat.zero_add] at g1
      simp [Builtin.delete_, run_underlying ht, MapKept.run_getObj_map h1, run_checkKey_str hk, MapKept.run_findKey hk g1, MapKept.run_setObj_map _ h1, Result.andThen]
    · unfold Array.eraseIdxIfInBounds
      rw [dif_pos hn, Array.toList_eraseIdx]; exact g6
    · exact (hs.map _).nodup h3
    · exact fun x hx => h4 x (hs.subset hx)

/-- Block r is an iterator over map m, which holds E; these entries are still to come. -/
def IterIs (w : World) (r m : Nat) (E : List (ByteArray × Value)) (left : List (ByteArray × Value)) : Prop :=
  ∃ es clock since seen last, w.heap[m]? = some (.map es clock) ∧ w.heap[r]? = some (.mapIter (some m) since seen last) ∧ clock = since ∧ last = since ∧ es.toList.map kv = E.map sv ∧
    (es.toList.map (·.born)).Nodup ∧ (∀ e ∈ es.toList, e.born < clock) ∧ (es.toList.filter fun e => !seen.contains e.born).map kv = left.map sv

theorem run_range_map (ht : P.underlying T = some (.map K EL)) (h : MapIs w m E) :
    ∃ w', (Instr.range T (.map (some m))).run P w = .ok (.pointer (some ⟨w.heap.size, 0, none⟩)) w' ∧ IterIs w' w.heap.size m E E ∧ Upd (fun _ => False) w w' := by
  obtain ⟨es, c, h1, h2, h3, h4⟩ := h
  refine ⟨w.alloc (.mapIter (some m) c #[] c), ?_, ⟨es, c, c, #[], c, ?_, heap_alloc_new _ _, rfl, rfl, h2, h3, h4, ?_⟩, (Upd.refl _ _).alloc _⟩
  · simp [Instr.range, run_underlying ht, MapKept.run_getObj_map h1, Result.andThen, newObj, Sem.run]
  · rw [heap_alloc_past _ _ _ (lt_of_heap h1)]; exact h1
  · have hf : (es.toList.filter fun e => !(#[] : Array Nat).contains e.born) = es.toList := by
      rw [List.filter_eq_self]
      intro e _
      simp
    rw [hf]; exact h2

theorem run_getObj_iter {r : Nat} {x : Option Nat} {s l : Nat} {q : Array Nat} (hb : w.heap[r]? = some (.mapIter x s q l)) : (getObj r).run P w = .ok (.mapIter x s q l) w := by
  simp [getObj, Sem.run, hb]
theorem run_setObj_iter {r : Nat} {x : Option Nat} {s l : Nat} {q : Array Nat} (o : Obj) (hb : w.heap[r]? = some (.mapIter x s q l)) : (setObj r o).run P w = .ok () { w with heap := w.heap.setIfInBounds r o } := by
  simp [setObj, Sem.run, hb]

theorem run_next_end {r : Nat} (h : IterIs w r m E []) (T' : TypeId) : (Instr.next (.pointer (some ⟨r, 0, none⟩)) false T').run P w = .ok (.tuple #[.bool false]) w := by
  obtain ⟨es, c, since, seen, last, h1, h2, h3, h4, h5, h6, h7, h8⟩ := h
  subst h3 h4
  have hnone : (es.toList.filter fun e => !seen.contains e.born) = [] := by simpa using h8
  have hemp : (es.filter fun e => !seen.contains e.born) = #[] := by
    apply Array.toList_inj.1
    rw [Array.toList_filter]; exact hnone
  have hall : (!seen.isEmpty && !es.isEmpty && es.all (fun e => decide (e.born ≥ last))) = false := by
    rcases hes : es.toList with _ | ⟨e, l⟩
    · have : es = #[] := Array.toList_inj.1 hes
      simp [this]
    · have hm : e ∈ es.toList := by rw [hes]; exact .head _
      have := h7 e hm
      have hf : es.all (fun e => decide (e.born ≥ last)) = false := by
        rw [Array.all_eq_false]
        obtain ⟨i, hi, he⟩ := Array.mem_iff_getElem.1 (Array.mem_toList_iff.1 hm)
        exact ⟨i, hi, by rw [he]; simp; omega⟩
      rw [hf]; simp
  have hstop : ∀ {α : Type} (x y : Sem α), (if (!seen.isEmpty && !es.isEmpty && es.all (fun e => decide (e.born ≥ last))) = true then x else y) = y := by
    intro α x y; rw [hall]; simp
  simp only [Instr.next, Sem.run_bind, run_getObj_iter h2, Result.andThen_ok, MapKept.run_getObj_map h1, hstop, hemp]
  simp [choose, Sem.run, Question.forced]

theorem kv_inj_sv {e : MapEntry} {p : ByteArray × Value} (h : kv e = sv p) : e.key = .string p.1 ∧ e.val = p.2 := by
  simpa [kv, sv] using h

theorem filter_push_born (seen : Array Nat) : ∀ (l : List MapEntry) (n : Nat) (e : MapEntry), (l.map (·.born)).Nodup → l[n]? = some e → (l.filter fun x => x.born != e.born) = l.eraseIdx n
  | [], n, e, _, h => by simp at h
  | y :: l, 0, e, hn, h => by
    simp only [List.getElem?_cons_zero, Option.some.injEq] at h
    subst h
    simp only [List.map_cons, List.nodup_cons, List.mem_map, not_exists, not_and] at hn
    rw [List.filter_cons, if_neg (by simp), List.eraseIdx_zero, List.tail_cons, List.filter_eq_self]
    intro x hx
    have := hn.1 x hx
    simpa using this
  | y :: l, n + 1, e, hn, h => by
    simp only [List.getElem?_cons_succ] at h
    simp only [List.map_cons, List.nodup_cons, List.mem_map, not_exists, not_and] at hn
    have hm : e ∈ l := List.mem_of_getElem? h
    have hne : (y.born != e.born) = true := by
      have := hn.1 e hm
      simp only [bne_iff_ne, ne_eq]
      exact fun q => this q.symm
    rw [List.filter_cons, if_pos hne, List.eraseIdx_cons_succ, filter_push_born seen l n e hn.2 h]

theorem run_next_some {r : Nat} {left : List (ByteArray × Value)} (h : IterIs w r m E left) (hl : left ≠ []) (hrm : r ≠ m) :
    ∃ pre x post w', left = pre ++ x :: post ∧ (∀ T', (Instr.next (.pointer (some ⟨r, 0, none⟩)) false T').run P w = .ok (.tuple #[.bool true, .string x.1, x.2]) w') ∧
      (Instr.entry (.pointer (some ⟨r, 0, none⟩))).run P w' = .ok (.tuple #[.string x.1, x.2]) w' ∧ IterIs w' r m E (pre ++ post) ∧ Upd (fun b => b = r) w w' := by
  obtain ⟨es, c, since, seen, last, h1, h2, h3, h4, h5, h6, h7, h8⟩ := h
  subst h3 h4
  let L := es.toList.filter fun e => !seen.contains e.born
  have hLlen : L.length = left.length := by have := congrArg List.length h8; simpa [L] using this
  have hLpos : 0 < L.length := by rw [hLlen]; exact List.length_pos_iff.2 hl
  have hfil : (es.filter fun e => !seen.contains e.born) = L.toArray := by
    apply Array.toList_inj.1
    rw [Array.toList_filter]
  have hold : (L.toArray.filter fun e => decide (e.born < last)) = L.toArray := by
    apply Array.toList_inj.1
    rw [Array.toList_filter, List.filter_eq_self]
    intro e he
    have := h7 e (List.mem_filter.1 he).1
    simpa using this
  have hnew : (L.toArray.filter fun e => decide (e.born ≥ last)) = #[] := by
    apply Array.toList_inj.1
    rw [Array.toList_filter]
    show List.filter _ L = []
    rw [List.filter_eq_nil_iff]
    intro e he
    have := h7 e (List.mem_filter.1 he).1
    simp; omega
  have hall : (!seen.isEmpty && !es.isEmpty && es.all (fun e => decide (e.born ≥ last))) = false := by
    rcases hes : es.toList with _ | ⟨e, l⟩
    · have : es = #[] := Array.toList_inj.1 hes
      simp [this]
    · have hm : e ∈ es.toList := by rw [hes]; exact .head _
      have := h7 e hm
      have hf : es.all (fun e => decide (e.born ≥ last)) = false := by
        rw [Array.all_eq_false]
        obtain ⟨i, hi, he⟩ := Array.mem_iff_getElem.1 (Array.mem_toList_iff.1 hm)
        exact ⟨i, hi, by rw [he]; simp; omega⟩
      rw [hf]; simp
  have hstop : ∀ {α : Type} (x y : Sem α), (if (!seen.isEmpty && !es.isEmpty && es.all (fun e => decide (e.born ≥ last))) = true then x else y) = y := by
    intro α x y; rw [hall]; simp
  have hemp : L.toArray.isEmpty = false := by
    cases hq : L with
    | nil => rw [hq] at hLpos; simp at hLpos
    | cons => rfl
  -- the choice: an index, and the world behind it
  have hch : ∃ i w1, i < L.length ∧ (choose (.mapNext L.length)).run P w = .ok i w1 ∧ w1.heap = w.heap ∧ w1.os = w.os ∧ w1.tape = w.tape ∧ w1.output = w.output := by
    by_cases hf : L.length ≤ 1
    · exact ⟨0, w, hLpos, by simp [choose, Sem.run, Question.forced, hf], rfl, rfl, rfl, rfl⟩
    · refine ⟨w.tape w.drawn (.mapNext L.length) % L.length, w.drew, Nat.mod_lt _ hLpos, ?_, rfl, rfl, rfl, rfl⟩
      simp [choose, Sem.run, Question.forced, hf, Question.cut]
  obtain ⟨i, w1, hi, hrun, e1, e2, e3, e4⟩ := hch
  have hil : i < left.length := by omega
  have hLi : L[i]? = some L[i] := List.getElem?_eq_getElem hi
  have hkvi : kv L[i] = sv left[i] := by
    have := congrArg (fun l => l[i]?) h8
    simp only [List.getElem?_map] at this
    rw [show (es.toList.filter fun e => !seen.contains e.born) = L from rfl, hLi, List.getElem?_eq_getElem hil] at this
    simpa using this
  obtain ⟨hk, hv⟩ := kv_inj_sv hkvi
  refine ⟨left.take i, left[i], left.drop (i + 1), { w1 with heap := w1.heap.setIfInBounds r (.mapIter (some m) last (seen.push L[i].born) last) }, ?_, ?_, ?_, ?_, ?_⟩
  · rw [List.getElem_cons_drop, List.take_append_drop]
  · intro T'
    have h2' : w1.heap[r]? = some (.mapIter (some m) last seen last) := by rw [e1]; exact h2
    have hcand : (L.toArray.map some)[i]? = some (some L[i]) := by simp [hi]
    simp only [Instr.next, Sem.run_bind, run_getObj_iter h2, Result.andThen_ok, MapKept.run_getObj_map h1, hstop, hfil, hold, hnew, hemp]
    simp only [Bool.false_eq_true, if_false, Array.append_empty, Array.empty_append, Array.size_map, List.size_toArray, hrun, Result.andThen_ok, hcand, Sem.run_bind, run_setObj_iter _ h2', Sem.run_pure, hk, hv]
  · have g1 : (w1.heap.setIfInBounds r (.mapIter (some m) last (seen.push L[i].born) last))[r]? = some (.mapIter (some m) last (seen.push L[i].born) last) := by rw [e1]; exact (MapKept.heap_set h2).1
    have g2 : (w1.heap.setIfInBounds r (.mapIter (some m) last (seen.push L[i].born) last))[m]? = some (.map es last) := by
      rw [Array.getElem?_setIfInBounds_ne hrm, e1]; exact h1
    have hfind : es.find? (fun e => e.born == L[i].born) = some L[i] := by
      have hm : L[i] ∈ es.toList := (List.mem_filter.1 (List.getElem_mem hi)).1
      rw [← Array.find?_toList]
      rw [List.find?_eq_some_iff_append]
      obtain ⟨pre, post, hpp⟩ := List.append_of_mem hm
      refine ⟨by simp, pre, post, hpp, ?_⟩
      intro x hx
      rw [hpp, List.map_append, List.map_cons, List.nodup_append] at h6
      have := h6.2.2 x.born (List.mem_map.2 ⟨x, hx, rfl⟩) L[i].born (List.mem_cons_self ..)
      simpa using this
    have r1 := run_getObj_iter (P := P) (w := { w1 with heap := w1.heap.setIfInBounds r (.mapIter (some m) last (seen.push L[i].born) last) }) g1
    have r2 := MapKept.run_getObj_map (P := P) (w := { w1 with heap := w1.heap.setIfInBounds r (.mapIter (some m) last (seen.push L[i].born) last) }) g2
    simp [Instr.entry, r1, r2, Result.andThen, hfind, hk, hv]
  · refine ⟨es, last, last, seen.push L[i].born, last, ?_, ?_, rfl, rfl, h5, h6, h7, ?_⟩
    · show (w1.heap.setIfInBounds r _)[m]? = _
      rw [Array.getElem?_setIfInBounds_ne hrm, e1]; exact h1
    · show (w1.heap.setIfInBounds r _)[r]? = _
      rw [e1]; exact (MapKept.heap_set h2).1
    · have hff : (es.toList.filter fun e => !(seen.push L[i].born).contains e.born) = L.filter fun x => x.born != L[i].born := by
        rw [List.filter_filter]
        apply List.filter_congr
        intro x _
        simp only [Array.contains_push]
        cases seen.contains x.born <;> simp [bne]
      have hnd : (L.map (·.born)).Nodup := ((List.filter_sublist).map _).nodup h6
      rw [hff, filter_push_born seen L i L[i] hnd hLi]
      have h8' : L.map kv = left.map sv := h8
      rw [List.eraseIdx_eq_take_drop_succ, List.map_append, List.map_append, List.map_take, List.map_drop, h8', List.map_take, List.map_drop]
  · refine ⟨e2, e3, e4, ?_, ?_⟩
    · show _ ≤ (w1.heap.setIfInBounds r _).size
      rw [Array.size_setIfInBounds, e1]; exact Nat.le_refl _
    · intro k _ hn
      show (w1.heap.setIfInBounds r _)[k]? = _
      rw [Array.getElem?_setIfInBounds_ne (fun q => hn q.symm), e1]
end

end Go.Proofs.YtgaidmohdhaonaaGreatDoor

namespace Go.Proofs.YtgaidmohdhaonaaGreatDoor
set_option linter.unusedVariables false
set_option linter.unusedSimpArgs false
set_option linter.unnecessarySimpa false
set_option linter.unusedSectionVars false
open Go Go.RowKit Go.Sort

def toBA (l : List UInt8) : ByteArray := ⟨l.toArray⟩
theorem toBA_data (s : ByteArray) : toBA s.data.toList = s := by simp [toBA]
theorem toBA_toList (l : List UInt8) : (toBA l).data.toList = l := by simp [toBA]

def leB (x y : List UInt8) : Bool := decide (x ≤ y)
/-- Names in their order, byte by byte. -/
def sortNames (l : List ByteArray) : List ByteArray := ((l.map (·.data.toList)).mergeSort leB).map toBA

theorem leB_trans (a b c : List UInt8) : leB a b = true → leB b c = true → leB a c = true := by
  simp only [leB, decide_eq_true_eq]; exact List.le_trans
theorem leB_total (a b : List UInt8) : (leB a b || leB b a) = true := by
  simp only [leB, Bool.or_eq_true, decide_eq_true_eq]; exact List.le_total a b

theorem mergeSort_congr {l l' : List (List UInt8)} (h : l.Perm l') : l.mergeSort leB = l'.mergeSort leB := by
  apply List.Perm.eq_of_pairwise (le := fun a b => leB a b = true)
  · intro a b _ _ h1 h2
    simp only [leB, decide_eq_true_eq] at h1 h2
    exact List.le_antisymm h1 h2
  · exact List.pairwise_mergeSort leB_trans leB_total l
  · exact List.pairwise_mergeSort leB_trans leB_total l'
  · exact (List.mergeSort_perm l leB).trans (h.trans (List.mergeSort_perm l' leB).symm)

theorem sortNames_congr {l l' : List ByteArray} (h : l.Perm l') : sortNames l = sortNames l' := by
  unfold sortNames
  rw [mergeSort_congr (h.map _)]

theorem sortNames_perm (l : List ByteArray) : (sortNames l).Perm l := by
  unfold sortNames
  have := (List.mergeSort_perm (l.map (·.data.toList)) leB).map toBA
  refine this.trans ?_
  rw [List.map_map]
  have : (toBA ∘ fun x : ByteArray => x.data.toList) = id := by funext x; exact toBA_data x
  rw [this, List.map_id]

theorem sortNames_sorted (l : List ByteArray) : (sortNames l).Pairwise (fun a b => leB a.data.toList b.data.toList = true) := by
  unfold sortNames
  rw [List.pairwise_map]
  refine (List.pairwise_mergeSort leB_trans leB_total (l.map (·.data.toList))).imp ?_
  intro a b h
  rw [toBA_toList, toBA_toList]; exact h

theorem heap_grow {w : World} (os : Array Obj) {k : Nat} (h : k < w.heap.size) : (grow w os).heap[k]? = w.heap[k]? := by
  show (w.heap ++ os)[k]? = _
  rw [Array.getElem?_append_left h]

theorem upd_grow_put {α : Type} [Inhabited α] (enc : α → Value) (w : World) (q g off : Nat) (d : Array α) (os : Array Obj) : Upd (fun k => k = g) w (grow (putRow enc (Sort.ahead w q) g off d) os) := by
  refine ⟨rfl, rfl, rfl, ?_, ?_⟩
  · show _ ≤ ((w.heap.modify g _) ++ os).size
    simp
  · intro k hk hn
    rw [heap_grow os (by show k < (w.heap.modify g _).size; simpa using hk)]
    show (w.heap.modify g _)[k]? = _
    rw [Array.getElem?_modify, if_neg (fun e => hn e.symm)]

theorem holds_owned {w : World} {base g n cap : Nat} {e : TypeId} {ss : List (List UInt8)} (h : w.ownsRow base e 1 (.slice (some ⟨g, 0, none⟩) n cap) n (ss.map Go.Proofs.encStr)) : Holds Go.Proofs.encStr w g 0 ss.toArray ∧ g < w.heap.size ∧ ss.length = n := by
  obtain ⟨hl, h⟩ := h
  have hn : ss.length = n := by simpa using hl
  rcases h with ⟨h1, _⟩ | ⟨g', cap', cur, hv, _, h1, h2, h3, h4, h5⟩
  · cases h1
  · simp only [Value.slice.injEq, Option.some.injEq, Addr.mk.injEq] at hv
    obtain ⟨⟨rfl, -, -⟩, -, rfl⟩ := hv
    refine ⟨fun j hj => ?_, lt_of_heap h1, hn⟩
    have hj' : j < ss.length := by simpa using hj
    rw [Nat.zero_add]
    refine ⟨?_, frozen_of_row w g j cur _ h1⟩
    rw [cell_of_row w g j cur _ _ h1]
    have := congrArg (fun l => l[j]?) h5
    simp only [List.getElem?_take, Nat.mul_one, hn.symm ▸ hj', if_true, List.getElem?_map, List.getElem?_eq_getElem hj', Option.map_some] at this
    rw [← Array.getElem?_toList, this]
    simp [hj']

theorem owns_sorted {w : World} {base g n cap q : Nat} {e : TypeId} {ss ys : List (List UInt8)} {os : Array Obj} (h : w.ownsRow base e 1 (.slice (some ⟨g, 0, none⟩) n cap) n (ss.map Go.Proofs.encStr)) (hy : ys.length = n) :
    (grow (putRow Go.Proofs.encStr (Sort.ahead w q) g 0 ys.toArray) os).ownsRow base e 1 (.slice (some ⟨g, 0, none⟩) n cap) n (ys.map Go.Proofs.encStr) := by
  obtain ⟨hl, h⟩ := h
  refine ⟨by simpa using hy, ?_⟩
  rcases h with ⟨h1, _⟩ | ⟨g', cap', cur, hv, hb, h1, h2, h3, h4, h5⟩
  · cases h1
  · simp only [Value.slice.injEq, Option.some.injEq, Addr.mk.injEq] at hv
    obtain ⟨⟨rfl, -, -⟩, -, rfl⟩ := hv
    have hlt := lt_of_heap h1
    refine .inr ⟨g, cap, putCells Go.Proofs.encStr 0 ys.toArray cur, rfl, hb, ?_, h2, h3, ?_, ?_⟩
    · rw [heap_grow os (by show g < (w.heap.modify g _).size; simpa using hlt)]
      show (w.heap.modify g _)[g]? = _
      rw [Array.getElem?_modify, if_pos rfl]
      have e1 : (Sort.ahead w q).heap[g]? = w.heap[g]? := rfl
      rw [h1]
      rfl
    · simp [putCells, h4]
    · apply List.ext_getElem?
      intro j
      simp only [List.getElem?_take, Nat.mul_one, List.getElem?_map, putCells]
      have hsz : cur.size = cap := by simpa using h4
      by_cases hj : j < n
      · have hjc : j < cur.size := by omega
        have hjy : j < ys.length := by omega
        rw [if_pos hj, List.getElem?_eq_getElem hjy]
        simp [hjc, hjy]
      · rw [if_neg hj, List.getElem?_eq_none (by omega)]; rfl

end Go.Proofs.YtgaidmohdhaonaaGreatDoor

namespace Go.Proofs.YtgaidmohdhaonaaGreatDoor
set_option linter.unusedVariables false
set_option linter.unusedSimpArgs false
set_option linter.unnecessarySimpa false
set_option linter.unusedSectionVars false
open Go Go.RowKit

def nameByte (c : UInt8) : Bool := (97 ≤ c && c ≤ 122) || (65 ≤ c && c ≤ 90) || (48 ≤ c && c ≤ 57) || c == 46 || c == 45 || c == 95 || c == 47
def nameOk (s : List UInt8) : Bool := decide (1 ≤ s.length ∧ s.length ≤ 64) && s.all nameByte

theorem nb_iff (c : UInt8) : nameByte c = true ↔ ((97 ≤ (c.toNat : Int) ∧ (c.toNat : Int) ≤ 122) ∨ (65 ≤ (c.toNat : Int) ∧ (c.toNat : Int) ≤ 90) ∨ (48 ≤ (c.toNat : Int) ∧ (c.toNat : Int) ≤ 57) ∨ 0 ≤ Lib.indexByte [46, 45, 95, 47] c) := by
  have hi : 0 ≤ Lib.indexByte [46, 45, 95, 47] c ↔ (c = 46 ∨ c = 45 ∨ c = 95 ∨ c = 47) := by
    constructor
    · intro h
      obtain ⟨n, hn⟩ := Int.eq_ofNat_of_zero_le h
      have h1 := (Lib.indexByte_some hn).1
      have hm : c ∈ [46, 45, 95, 47] := List.mem_of_getElem? h1
      simpa using hm
    · rintro (rfl | rfl | rfl | rfl) <;> decide
  rw [hi]
  have e1 : c = 46 ↔ c.toNat = 46 := ⟨fun h => by rw [h]; rfl, fun h => UInt8.toNat_inj.1 (by rw [h]; rfl)⟩
  have e2 : c = 45 ↔ c.toNat = 45 := ⟨fun h => by rw [h]; rfl, fun h => UInt8.toNat_inj.1 (by rw [h]; rfl)⟩
  have e3 : c = 95 ↔ c.toNat = 95 := ⟨fun h => by rw [h]; rfl, fun h => UInt8.toNat_inj.1 (by rw [h]; rfl)⟩
  have e4 : c = 47 ↔ c.toNat = 47 := ⟨fun h => by rw [h]; rfl, fun h => UInt8.toNat_inj.1 (by rw [h]; rfl)⟩
  simp [nameByte, UInt8.le_iff_toNat_le, e1, e2, e3, e4]
  omega

theorem take_all_step (s : ByteArray) (k : Nat) (h : k < s.size) : (s.data.toList.take (k + 1)).all nameByte = ((s.data.toList.take k).all nameByte && nameByte s[k]) := by
  have hl : k < s.data.toList.length := by simpa using h
  rw [List.take_succ_eq_append_getElem hl, List.all_append]
  simp [ByteArray.getElem_eq_getElem_data]

theorem no_name (s : ByteArray) (k : Nat) (h : k < s.size) (hf : nameByte s[k] = false) : nameOk s.data.toList = false := by
  have hl : k < s.data.toList.length := by simpa using h
  have : s.data.toList.all nameByte = false := by
    rw [List.all_eq_false]
    refine ⟨s.data.toList[k], List.getElem_mem hl, ?_⟩
    rw [show s.data.toList[k] = s[k] from by simp [ByteArray.getElem_eq_getElem_data], hf]; simp
  simp [nameOk, this]

theorem yes_name (s : ByteArray) (h1 : 1 ≤ s.size) (h2 : s.size ≤ 64) (h : (s.data.toList.take s.size).all nameByte = true) : nameOk s.data.toList = true := by
  have hl : s.data.toList.length = s.size := by simp
  rw [← hl, List.take_length] at h
  simp only [nameOk, h, hl, Bool.and_true, decide_eq_true_eq]
  exact ⟨h1, h2⟩

set_option maxRecDepth 100000 in
set_option maxHeartbeats 400000 in
theorem named_any (s : ByteArray) (w : World) :
    Calls Tryz.prog 127 #[.string s] w fun e w' => e = .returned (.bool (nameOk s.data.toList)) ∧ w' = w := by
  have hlen : s.data.toList.length = s.size := by simp
  by_cases h0 : s.size < 1
  · have hr : nameOk s.data.toList = false := by simp [nameOk, hlen]; intro h; omega
    have HR := hid hr; clear hr hlen
    go_enter Tryz.func127, Tryz.ntmps127
    go_wp2
    go_ret
    exact ⟨by rw [HR.out]; rfl, rfl⟩
  by_cases h1 : s.size > 64
  · have hr : nameOk s.data.toList = false := by simp [nameOk, hlen]; intro _ h; omega
    have HR := hid hr; clear hr hlen
    have h1' : (64 : Int) < (s.size : Int) := by omega
    have h0' : ¬ ((s.size : Int) < 1) := by omega
    go_enter Tryz.func127, Tryz.ntmps127
    go_wp2
    go_ret
    exact ⟨by rw [HR.out]; rfl, rfl⟩
  have hb0 : 1 ≤ s.size := by omega
  have hb1 : s.size ≤ 64 := by omega
  clear h0 h1
  have HL := hid hlen; clear hlen
  go_enter Tryz.func127, Tryz.ntmps127
  go_wp2
  go_loop [16] (fun i => ∃ k : Nat, k ≤ s.size ∧ i = .int .i64 k ∧ (s.data.toList.take k).all nameByte = true) (fun i => s.size - (intOf i).toNat)
  case atStart => exact ⟨0, by omega, rfl, by simp⟩
  case round =>
    obtain ⟨k, hk, rfl, hall⟩ := hrel
    have HA := hid hall; clear hall
    by_cases hlt : k < s.size
    · have hst := take_all_step s k hlt
      have HS := hid hst; clear hst
      go_wp2_with (go_at_call 168; refine (Tryz.strings_IndexByte _ _ _).mono ?_; rintro e w' ⟨rfl, rfl⟩)
      all_goals (try simp only [Bool.not_eq_true', Bool.not_eq_false', decide_eq_true_eq, decide_eq_false_iff_not] at *)
      all_goals first
        | (go_round
           case rel => exact ⟨k + 1, by omega, by go_num, by rw [HS.out, HA.out]; exact (nb_iff _).2 (by omega)⟩
           case measure => simp [intOf]; omega)
        | (go_ret
           have hf : nameByte s[k] = false := by rw [← Bool.not_eq_true]; exact fun h => by have := (nb_iff _).1 h; omega
           exact ⟨by rw [no_name s k hlt hf]; rfl, rfl⟩)
    · obtain rfl : k = s.size := by omega
      go_wp2
      go_ret
      exact ⟨by rw [yes_name s hb0 hb1 HA.out]; rfl, rfl⟩

end Go.Proofs.YtgaidmohdhaonaaGreatDoor
