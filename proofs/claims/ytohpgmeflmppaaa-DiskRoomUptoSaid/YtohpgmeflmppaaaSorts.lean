/-
  Names in their order; the world behind the library's sort. No program stands here.
-/
import Derived.Test.YtohpgmeflmppaaaBase
import Derived.Sort.EncStr
import Derived.Sort.Grow
namespace Go.Proofs.Ytohpgmeflmppaaa
set_option linter.unusedVariables false
set_option linter.unusedSimpArgs false
set_option linter.unnecessarySimpa false
set_option linter.unusedSectionVars false
open Go Go.RowKit Go.Sort

def toBA (l : List UInt8) : ByteArray := ⟨l.toArray⟩
theorem toBA_data (s : ByteArray) : toBA s.data.toList = s := by simp [toBA]
theorem toBA_toList (l : List UInt8) : (toBA l).data.toList = l := by simp [toBA]

def leB (x y : List UInt8) : Bool := decide (x ≤ y)
/-- Names in their order, byte by byte. -/
def sortNames (l : List ByteArray) : List ByteArray := ((l.map (·.data.toList)).mergeSort leB).map toBA

theorem leB_trans (a b c : List UInt8) : leB a b = true → leB b c = true → leB a c = true := by
  simp only [leB, decide_eq_true_eq]; exact List.le_trans
theorem leB_total (a b : List UInt8) : (leB a b || leB b a) = true := by
  simp only [leB, Bool.or_eq_true, decide_eq_true_eq]; exact List.le_total a b

theorem mergeSort_congr {l l' : List (List UInt8)} (h : l.Perm l') : l.mergeSort leB = l'.mergeSort leB := by
  apply List.Perm.eq_of_pairwise (le := fun a b => leB a b = true)
  · intro a b _ _ h1 h2
    simp only [leB, decide_eq_true_eq] at h1 h2
    exact List.le_antisymm h1 h2
  · exact List.pairwise_mergeSort leB_trans leB_total l
  · exact List.pairwise_mergeSort leB_trans leB_total l'
  · exact (List.mergeSort_perm l leB).trans (h.trans (List.mergeSort_perm l' leB).symm)

theorem sortNames_congr {l l' : List ByteArray} (h : l.Perm l') : sortNames l = sortNames l' := by
  unfold sortNames
  rw [mergeSort_congr (h.map _)]

theorem sortNames_perm (l : List ByteArray) : (sortNames l).Perm l := by
  unfold sortNames
  have := (List.mergeSort_perm (l.map (·.data.toList)) leB).map toBA
  refine this.trans ?_
  rw [List.map_map]
  have : (toBA ∘ fun x : ByteArray => x.data.toList) = id := by funext x; exact toBA_data x
  rw [this, List.map_id]

theorem sortNames_sorted (l : List ByteArray) : (sortNames l).Pairwise (fun a b => leB a.data.toList b.data.toList = true) := by
  unfold sortNames
  rw [List.pairwise_map]
  refine (List.pairwise_mergeSort leB_trans leB_total (l.map (·.data.toList))).imp ?_
  intro a b h
  rw [toBA_toList, toBA_toList]; exact h

theorem heap_grow {w : World} (os : Array Obj) {k : Nat} (h : k < w.heap.size) : (grow w os).heap[k]? = w.heap[k]? := by
  show (w.heap ++ os)[k]? = _
  rw [Array.getElem?_append_left h]

theorem upd_grow_put {α : Type} [Inhabited α] (enc : α → Value) (w : World) (q g off : Nat) (d : Array α) (os : Array Obj) : Upd (fun k => k = g) w (grow (putRow enc (Sort.ahead w q) g off d) os) := by
  refine ⟨rfl, rfl, rfl, ?_, ?_⟩
  · show _ ≤ ((w.heap.modify g _) ++ os).size
    simp
  · intro k hk hn
    rw [heap_grow os (by show k < (w.heap.modify g _).size; simpa using hk)]
    show (w.heap.modify g _)[k]? = _
    rw [Array.getElem?_modify, if_neg (fun e => hn e.symm)]

theorem holds_owned {w : World} {base g n cap : Nat} {e : TypeId} {ss : List (List UInt8)} (h : w.ownsRow base e 1 (.slice (some ⟨g, 0, none⟩) n cap) n (ss.map Go.Proofs.encStr)) : Holds Go.Proofs.encStr w g 0 ss.toArray ∧ g < w.heap.size ∧ ss.length = n := by
  obtain ⟨hl, h⟩ := h
  have hn : ss.length = n := by simpa using hl
  rcases h with ⟨h1, _⟩ | ⟨g', cap', cur, hv, _, h1, h2, h3, h4, h5⟩
  · cases h1
  · simp only [Value.slice.injEq, Option.some.injEq, Addr.mk.injEq] at hv
    obtain ⟨⟨rfl, -, -⟩, -, rfl⟩ := hv
    refine ⟨fun j hj => ?_, lt_of_heap h1, hn⟩
    have hj' : j < ss.length := by simpa using hj
    rw [Nat.zero_add]
    refine ⟨?_, frozen_of_row w g j cur _ h1⟩
    rw [cell_of_row w g j cur _ _ h1]
    have := congrArg (fun l => l[j]?) h5
    simp only [List.getElem?_take, Nat.mul_one, hn.symm ▸ hj', if_true, List.getElem?_map, List.getElem?_eq_getElem hj', Option.map_some] at this
    rw [← Array.getElem?_toList, this]
    simp [hj']

theorem owns_sorted {w : World} {base g n cap q : Nat} {e : TypeId} {ss ys : List (List UInt8)} {os : Array Obj} (h : w.ownsRow base e 1 (.slice (some ⟨g, 0, none⟩) n cap) n (ss.map Go.Proofs.encStr)) (hy : ys.length = n) :
    (grow (putRow Go.Proofs.encStr (Sort.ahead w q) g 0 ys.toArray) os).ownsRow base e 1 (.slice (some ⟨g, 0, none⟩) n cap) n (ys.map Go.Proofs.encStr) := by
  obtain ⟨hl, h⟩ := h
  refine ⟨by simpa using hy, ?_⟩
  rcases h with ⟨h1, _⟩ | ⟨g', cap', cur, hv, hb, h1, h2, h3, h4, h5⟩
  · cases h1
  · simp only [Value.slice.injEq, Option.some.injEq, Addr.mk.injEq] at hv
    obtain ⟨⟨rfl, -, -⟩, -, rfl⟩ := hv
    have hlt := lt_of_heap h1
    refine .inr ⟨g, cap, putCells Go.Proofs.encStr 0 ys.toArray cur, rfl, hb, ?_, h2, h3, ?_, ?_⟩
    · rw [heap_grow os (by show g < (w.heap.modify g _).size; simpa using hlt)]
      show (w.heap.modify g _)[g]? = _
      rw [Array.getElem?_modify, if_pos rfl]
      have e1 : (Sort.ahead w q).heap[g]? = w.heap[g]? := rfl
      rw [h1]
      rfl
    · simp [putCells, h4]
    · apply List.ext_getElem?
      intro j
      simp only [List.getElem?_take, Nat.mul_one, List.getElem?_map, putCells]
      have hsz : cur.size = cap := by simpa using h4
      by_cases hj : j < n
      · have hjc : j < cur.size := by omega
        have hjy : j < ys.length := by omega
        rw [if_pos hj, List.getElem?_eq_getElem hjy]
        simp [hjc, hjy]
      · rw [if_neg hj, List.getElem?_eq_none (by omega)]; rfl

end Go.Proofs.Ytohpgmeflmppaaa
