/-
  A disk as it lies in memory, and as plain data: what each of its calls makes of it. No walk stands here.
-/
import Derived.Test.YtohpgmeflmppaaaBase
import Derived.Test.YtohpgmeflmppaaaName
namespace Go.Proofs.Ytohpgmeflmppaaa
set_option linter.unusedVariables false
set_option linter.unusedSimpArgs false
set_option linter.unnecessarySimpa false
set_option linter.unusedSectionVars false
open Go Go.RowKit

def byteV (b : UInt8) : Value := .int .u8 (b.toNat : Int)

/-- v is the bytes bs, in a row of its own (or nil, of none). -/
def DataIs (w : World) (v : Value) (bs : List UInt8) : Prop :=
  (v = .slice none 0 0 ∧ bs = []) ∨
  ∃ g cap cur, v = .slice (some ⟨g, 0, none⟩) bs.length cap ∧ w.heap[g]? = some (.cells cur 5 (0, 0)) ∧ bs.length ≤ cap ∧ cap ≤ cur.size ∧ cap ≤ maxLen ∧ cur.toList.take bs.length = bs.map byteV

theorem DataIs.of_block {w w' : World} {v : Value} {bs : List UInt8} (h : DataIs w v bs) (hb : ∀ k, v.ownBlock = some k → w'.heap[k]? = w.heap[k]?) : DataIs w' v bs := by
  rcases h with h | ⟨g, cap, cur, rfl, h1, h2⟩
  · exact .inl h
  · exact .inr ⟨g, cap, cur, rfl, (hb g rfl).trans h1, h2⟩

theorem DataIs.lt {w : World} {v : Value} {bs : List UInt8} (h : DataIs w v bs) : ∀ k, v.ownBlock = some k → k < w.heap.size := by
  rcases h with ⟨rfl, _⟩ | ⟨g, cap, cur, rfl, h1, _⟩
  · simp [Value.ownBlock]
  · intro k hk
    simp only [Value.ownBlock, Option.some.injEq] at hk
    subst hk
    exact lt_of_heap h1

structure Cnt where
  acts : Int
  appends : Int
  syncs : Int
  renames : Int
  deletes : Int
  reads : Int

/-- A file in memory. -/
structure FRec where
  name : ByteArray
  blk : Nat
  dv : Value
  data : List UInt8
  synced : Nat

/-- A disk in memory. -/
structure DS where
  p : Nat
  m : Nat
  cap : Nat
  recs : List FRec
  down : Bool
  armed : Int
  cnt : Cnt

def usedOf (l : List FRec) : Nat := (l.map (·.data.length)).sum
def DS.used (s : DS) : Nat := usedOf s.recs

def DS.cells (s : DS) : Array Value := #[.int .i64 s.cap, .int .i64 s.used, .map (some s.m), .bool s.down, .int .i64 s.armed,
  .int .i64 s.cnt.acts, .int .i64 s.cnt.appends, .int .i64 s.cnt.syncs, .int .i64 s.cnt.renames, .int .i64 s.cnt.deletes, .int .i64 s.cnt.reads]

def FRec.entry (r : FRec) : ByteArray × Value := (r.name, .pointer (some ⟨r.blk, 0, none⟩))
def FRec.cells (r : FRec) : Array Value := #[r.dv, .int .i64 r.synced]
def FRec.blocks (r : FRec) : List Nat := r.blk :: r.dv.ownBlock.toList
def DS.entries (s : DS) : List (ByteArray × Value) := s.recs.map FRec.entry
def recBlocks (l : List FRec) : List Nat := l.flatMap FRec.blocks
def DS.blocks (s : DS) : List Nat := s.p :: s.m :: recBlocks s.recs

/-- A file lies there. -/
structure FRec.In (w : World) (r : FRec) : Prop where
  cells : w.heap[r.blk]? = some (.cells r.cells 96 (0, 0))
  data : DataIs w r.dv r.data
  synced : r.synced ≤ r.data.length
  name : nameOk r.name.data.toList = true

structure DS.In (w : World) (s : DS) : Prop where
  top : w.heap[s.p]? = some (.cells s.cells 91 (0, 0))
  map : MapIs w s.m s.entries
  files : ∀ r ∈ s.recs, r.In w
  names : (s.recs.map (·.name)).Nodup
  blocks : s.blocks.Nodup
  count : s.recs.length ≤ 256
  room : s.used ≤ s.cap
  cap : s.cap ≤ 67108864
  armed : 0 ≤ s.armed ∧ s.armed ≤ 9223372036854775807
  wfc : True

theorem FRec.In.lt {w : World} {r : FRec} (h : r.In w) : ∀ k ∈ r.blocks, k < w.heap.size := by
  intro k hk
  simp only [FRec.blocks, List.mem_cons, Option.mem_toList] at hk
  rcases hk with rfl | hk
  · exact lt_of_heap h.cells
  · exact h.data.lt k hk

theorem mem_recBlocks {l : List FRec} {k : Nat} : k ∈ recBlocks l ↔ ∃ r ∈ l, k ∈ r.blocks := by simp [recBlocks]

theorem DS.In.lt {w : World} {s : DS} (h : s.In w) : ∀ k ∈ s.blocks, k < w.heap.size := by
  intro k hk
  simp only [DS.blocks, List.mem_cons] at hk
  rcases hk with rfl | rfl | hk
  · exact lt_of_heap h.top
  · exact h.map.lt
  · obtain ⟨r, hr, hk⟩ := mem_recBlocks.1 hk
    exact (h.files r hr).lt k hk

theorem FRec.In.of_blocks {w w' : World} {r : FRec} (h : r.In w) (hb : ∀ k ∈ r.blocks, w'.heap[k]? = w.heap[k]?) : r.In w' :=
  ⟨(hb _ (by simp [FRec.blocks])).trans h.cells, h.data.of_block (fun k hk => hb k (by simp [FRec.blocks, hk])), h.synced, h.name⟩

theorem DS.In.of_blocks {w w' : World} {s : DS} (h : s.In w) (hb : ∀ k ∈ s.blocks, w'.heap[k]? = w.heap[k]?) : s.In w' :=
  ⟨(hb _ (by simp [DS.blocks])).trans h.top, h.map.of_block (hb _ (by simp [DS.blocks])),
    fun r hr => (h.files r hr).of_blocks (fun k hk => hb k (by simp only [DS.blocks, List.mem_cons]; exact .inr (.inr (mem_recBlocks.2 ⟨r, hr, hk⟩)))),
    h.names, h.blocks, h.count, h.room, h.cap, h.armed, h.wfc⟩

/-- A step elsewhere leaves the disk as it is. -/
theorem DS.In.upd {w w' : World} {s : DS} {S : Nat → Prop} (h : s.In w) (hu : Upd S w w') (hn : ∀ k ∈ s.blocks, ¬ S k) : s.In w' :=
  h.of_blocks (fun k hk => hu.block k (h.lt k hk) (hn k hk))

/-! ### Plain data -/
structure FileA where
  name : ByteArray
  data : List UInt8
  synced : Nat

structure DiskA where
  cap : Nat
  files : List FileA
  down : Bool
  armed : Int
  cnt : Cnt

def FRec.abs (r : FRec) : FileA := ⟨r.name, r.data, r.synced⟩
def DS.abs (s : DS) : DiskA := ⟨s.cap, s.recs.map FRec.abs, s.down, s.armed, s.cnt⟩

/-- The disk in memory has become s2: nothing else has turned, but for new blocks. -/
structure Step (w w' : World) (s s2 : DS) : Prop where
  ins : s2.In w'
  p : s2.p = s.p
  upd : Upd (· ∈ s.blocks) w w'
  foot : ∀ k ∈ s2.blocks, k ∈ s.blocks ∨ w.heap.size ≤ k

theorem Step.refl {w : World} {s : DS} (h : s.In w) : Step w w s s := ⟨h, rfl, Upd.refl _ _, fun _ hk => .inl hk⟩

theorem Step.trans {w w1 w2 : World} {s s1 s2 : DS} (h : Step w w1 s s1) (h' : Step w1 w2 s1 s2) : Step w w2 s s2 :=
  ⟨h'.ins, h'.p.trans h.p, h.upd.trans h'.upd (fun k hk hm => (h.foot k hm).resolve_right (by omega)),
    fun k hk => (h'.foot k hk).elim (fun hm => h.foot k hm) (fun hm => .inr (Nat.le_trans h.upd.size hm))⟩

/-- New blocks and draws between. -/
theorem Step.of_upd {w w1 : World} {s : DS} (h : s.In w) (hu : Upd (fun _ => False) w w1) : Step w w1 s s :=
  ⟨h.upd hu (fun _ _ hf => hf), rfl, hu.mono (fun _ _ hf => hf.elim), fun _ hk => .inl hk⟩

/-! ### The cells, one by one -/
section
variable {w : World} {s : DS}
theorem DS.In.cell (h : s.In w) (i : Nat) : w.cell? ⟨s.p, i, none⟩ = s.cells[i]? := cell_of_row w s.p i _ _ _ h.top
theorem DS.In.free (h : s.In w) (i : Nat) : w.frozen? ⟨s.p, i, none⟩ = false := frozen_of_row w s.p i _ _ h.top
theorem DS.In.c_cap (h : s.In w) : w.cell? ⟨s.p, 0, none⟩ = some (.int .i64 s.cap) := h.cell 0
theorem DS.In.c_used (h : s.In w) : w.cell? ⟨s.p, 1, none⟩ = some (.int .i64 s.used) := h.cell 1
theorem DS.In.c_map (h : s.In w) : w.cell? ⟨s.p, 2, none⟩ = some (.map (some s.m)) := h.cell 2
theorem DS.In.c_down (h : s.In w) : w.cell? ⟨s.p, 3, none⟩ = some (.bool s.down) := h.cell 3
theorem DS.In.c_armed (h : s.In w) : w.cell? ⟨s.p, 4, none⟩ = some (.int .i64 s.armed) := h.cell 4
theorem DS.In.pm (h : s.In w) : s.p ≠ s.m := by
  have := h.blocks
  simp only [DS.blocks, List.nodup_cons, List.mem_cons, not_or] at this
  exact this.1.1
theorem DS.In.plt (h : s.In w) : s.p < w.heap.size := lt_of_heap h.top
end

/-- The blocks are all different. -/
theorem DS.In.blk_ne_p {w : World} {s : DS} (h : s.In w) {r : FRec} (hr : r ∈ s.recs) : r.blk ≠ s.p := by
  have hb := h.blocks
  simp only [DS.blocks, List.nodup_cons, List.mem_cons, not_or] at hb
  intro e
  exact hb.1.2 (mem_recBlocks.2 ⟨r, hr, by simp [FRec.blocks, e]⟩)

theorem DS.In.data_ne_p {w : World} {s : DS} (h : s.In w) {r : FRec} (hr : r ∈ s.recs) {g : Nat} (hg : r.dv.ownBlock = some g) : g ≠ s.p := by
  have hb := h.blocks
  simp only [DS.blocks, List.nodup_cons, List.mem_cons, not_or] at hb
  intro e
  exact hb.1.2 (mem_recBlocks.2 ⟨r, hr, by simp [FRec.blocks, hg, e]⟩)

theorem le_usedOf {l : List FRec} {r : FRec} (hr : r ∈ l) : r.data.length ≤ usedOf l := by
  unfold usedOf
  induction l with
  | nil => cases hr
  | cons x l ih =>
    simp only [List.map_cons, List.sum_cons]
    cases hr with
    | head => omega
    | tail _ h => have := ih h; omega

theorem DS.In.data_le {w : World} {s : DS} (h : s.In w) {r : FRec} (hr : r ∈ s.recs) : r.data.length ≤ 67108864 := by
  have h1 := le_usedOf hr
  have h2 := h.room
  have h3 := h.cap
  unfold DS.used at h2
  omega

/-- The file of a name. -/
def DS.fileAt (s : DS) (n : ByteArray) : Option FRec := s.recs.find? (fun r => r.name == n)
def DS.ptrAt (s : DS) (n : ByteArray) : Value := match s.fileAt n with | some r => .pointer (some ⟨r.blk, 0, none⟩) | none => .pointer none

theorem look_entries (l : List FRec) (n : ByteArray) : look (l.map FRec.entry) n = (l.find? (fun r => r.name == n)).map (fun r => .pointer (some ⟨r.blk, 0, none⟩)) := by
  induction l with
  | nil => rfl
  | cons r l ih =>
    rw [List.map_cons, look_cons, List.find?_cons]
    simp only [FRec.entry, beq_bytes] at ih ⊢
    by_cases h : r.name = n
    · simp [h]
    · simp [h, ih]

theorem ptrAt_look (s : DS) (n : ByteArray) : (look s.entries n).getD (.pointer none) = s.ptrAt n := by
  unfold DS.ptrAt DS.fileAt DS.entries
  rw [look_entries]
  cases s.recs.find? (fun r => r.name == n) <;> rfl

theorem fileAt_mem {s : DS} {n : ByteArray} {r : FRec} (h : s.fileAt n = some r) : r ∈ s.recs ∧ r.name = n := by
  have h1 := List.mem_of_find?_eq_some h
  have h2 := List.find?_some h
  simp only [beq_bytes, decide_eq_true_eq] at h2
  exact ⟨h1, h2⟩

def lookRes (down ok t there : Bool) : Int := if down then 3 else if !ok then 40 else if t && !there then 42 else 0

theorem DataIs.shape {w : World} {v : Value} {bs : List UInt8} (h : DataIs w v bs) : ∃ ao cap, v = .slice ao bs.length cap ∧ bs.length ≤ cap ∧ cap ≤ maxLen ∧ (ao = none → bs = [] ∧ cap = 0) ∧
    ∀ a, ao = some a → a.off = 0 ∧ a.spot = none ∧ v.ownBlock = some a.block ∧ ∀ i (hi : i < bs.length), w.cell? ⟨a.block, i, none⟩ = some (byteV bs[i]) := by
  rcases h with ⟨rfl, rfl⟩ | ⟨g, cap, cur, rfl, h1, h2, h3, h4, h5⟩
  · exact ⟨none, 0, rfl, Nat.le_refl _, by simp [maxLen], fun _ => ⟨rfl, rfl⟩, (fun a ha => by cases ha)⟩
  · refine ⟨some ⟨g, 0, none⟩, cap, rfl, h2, h4, (fun h => by cases h), fun a ha => ?_⟩
    cases ha
    refine ⟨rfl, rfl, rfl, fun i hi => ?_⟩
    rw [cell_of_row w g i cur _ _ h1]
    have := congrArg (fun l => l[i]?) h5
    simp only [List.getElem?_take, if_pos hi, List.getElem?_map, List.getElem?_eq_getElem hi, Option.map_some] at this
    simpa using this

theorem DataIs.of_owns {w : World} {base : Nat} {v : Value} {n : Nat} {xs : List UInt8} (h : w.ownsRow base 5 1 v n (xs.map byteV)) : DataIs w v xs := by
  obtain ⟨hl, h⟩ := h
  have hn : n = xs.length := by simpa using hl.symm
  subst hn
  rcases h with ⟨rfl, h0⟩ | ⟨g, cap, cur, rfl, _, h1, h2, h3, h4, h5⟩
  · exact .inl ⟨rfl, List.eq_nil_of_length_eq_zero h0⟩
  · exact .inr ⟨g, cap, cur, rfl, h1, h2, by omega, h3, by simpa using h5⟩

theorem FRec.In.c_dv {w : World} {r : FRec} (h : r.In w) : w.cell? ⟨r.blk, 0, none⟩ = some r.dv := cell_of_row w r.blk 0 _ _ _ h.cells
theorem FRec.In.c_synced {w : World} {r : FRec} (h : r.In w) : w.cell? ⟨r.blk, 1, none⟩ = some (.int .i64 r.synced) := cell_of_row w r.blk 1 _ _ _ h.cells

/-- A write into the first block alone. -/
theorem DS.In.top_turned {w w' : World} {s s2 : DS} (h : s.In w) (hu : Upd (fun k => k = s.p) w w') (hp : s2.p = s.p) (hm : s2.m = s.m) (hr : s2.recs = s.recs) (hc : s2.cap = s.cap)
    (ht : w'.heap[s.p]? = some (.cells s2.cells 91 (0, 0))) (ha : 0 ≤ s2.armed ∧ s2.armed ≤ 9223372036854775807) : Step w w' s s2 := by
  have hnd := h.blocks
  have hb : s2.blocks = s.blocks := by simp [DS.blocks, hp, hm, hr]
  have hne : ∀ k, k ∈ s.m :: recBlocks s.recs → k ≠ s.p := by
    intro k hk e
    subst e
    simp only [DS.blocks, List.nodup_cons] at hnd
    exact hnd.1 hk
  refine ⟨⟨by rw [hp]; exact ht, ?_, ?_, by rw [hr]; exact h.names, by rw [hb]; exact h.blocks, by rw [hr]; exact h.count, ?_, by rw [hc]; exact h.cap, ha, trivial⟩, hp, hu.mono ?_, ?_⟩
  · rw [hm, show s2.entries = s.entries from by simp [DS.entries, hr]]
    exact h.map.upd hu (hne _ (.head _))
  · intro r hr'
    rw [hr] at hr'
    refine (h.files r hr').of_blocks (fun k hk => ?_)
    have hmem : k ∈ recBlocks s.recs := mem_recBlocks.2 ⟨r, hr', hk⟩
    exact hu.block k (h.lt k (by simp [DS.blocks, hmem])) (hne k (.tail _ hmem))
  · have := h.room
    simp only [DS.used, hr, hc] at this ⊢
    exact this
  · intro k _ e
    simp [DS.blocks, e]
  · intro k hk
    rw [hb] at hk
    exact .inl hk

theorem lookRes_zero {d ok t th : Bool} : lookRes d ok t th = 0 ↔ d = false ∧ ok = true ∧ (t = true → th = true) := by
  cases d <;> cases ok <;> cases t <;> cases th <;> simp [lookRes]

end Go.Proofs.Ytohpgmeflmppaaa
