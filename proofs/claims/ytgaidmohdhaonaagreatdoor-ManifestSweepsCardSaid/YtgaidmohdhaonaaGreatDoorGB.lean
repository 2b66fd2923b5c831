/-
  A disk as it lies in memory, and as plain data: what each of its calls makes of it. No walk stands here.
  Package disk, walked: what asks and does not change.
  Package disk, walked: names, List.
  Package disk, walked: act, and the step that it defers.
-/
import Derived.Test.YtgaidmohdhaonaaGreatDoorGA
import Derived.Handy
import Derived.Outline
import Derived.Deep.LoopGhost
import Derived.Defers
import Derived.RegionTactic
import Derived.ChangeAlike
namespace Go.Proofs.YtgaidmohdhaonaaGreatDoor
set_option linter.unusedVariables false
set_option linter.unusedSimpArgs false
set_option linter.unnecessarySimpa false
set_option linter.unusedSectionVars false
open Go Go.RowKit

def byteV (b : UInt8) : Value := .int .u8 (b.toNat : Int)

/-- v is the bytes bs, in a row of its own (or nil, of none). -/
def DataIs (w : World) (v : Value) (bs : List UInt8) : Prop :=
  (v = .slice none 0 0 ∧ bs = []) ∨
  ∃ g cap cur, v = .slice (some ⟨g, 0, none⟩) bs.length cap ∧ w.heap[g]? = some (.cells cur 5 (0, 0)) ∧ bs.length ≤ cap ∧ cap ≤ cur.size ∧ cap ≤ maxLen ∧ cur.toList.take bs.length = bs.map byteV

theorem DataIs.of_block {w w' : World} {v : Value} {bs : List UInt8} (h : DataIs w v bs) (hb : ∀ k, v.ownBlock = some k → w'.heap[k]? = w.heap[k]?) : DataIs w' v bs := by
  rcases h with h | ⟨g, cap, cur, rfl, h1, h2⟩
  · exact .inl h
  · exact .inr ⟨g, cap, cur, rfl, (hb g rfl).trans h1, h2⟩

theorem DataIs.lt {w : World} {v : Value} {bs : List UInt8} (h : DataIs w v bs) : ∀ k, v.ownBlock = some k → k < w.heap.size := by
  rcases h with ⟨rfl, _⟩ | ⟨g, cap, cur, rfl, h1, _⟩
  · simp [Value.ownBlock]
  · intro k hk
    simp only [Value.ownBlock, Option.some.injEq] at hk
    subst hk
    exact lt_of_heap h1

structure Cnt where
  acts : Int
  appends : Int
  syncs : Int
  renames : Int
  deletes : Int
  reads : Int

/-- A file in memory. -/
structure FRec where
  name : ByteArray
  blk : Nat
  dv : Value
  data : List UInt8
  synced : Nat

/-- A disk in memory. -/
structure DS where
  p : Nat
  m : Nat
  cap : Nat
  recs : List FRec
  down : Bool
  armed : Int
  cnt : Cnt

def usedOf (l : List FRec) : Nat := (l.map (·.data.length)).sum
def DS.used (s : DS) : Nat := usedOf s.recs

def DS.cells (s : DS) : Array Value := #[.int .i64 s.cap, .int .i64 s.used, .map (some s.m), .bool s.down, .int .i64 s.armed,
  .int .i64 s.cnt.acts, .int .i64 s.cnt.appends, .int .i64 s.cnt.syncs, .int .i64 s.cnt.renames, .int .i64 s.cnt.deletes, .int .i64 s.cnt.reads]

def FRec.entry (r : FRec) : ByteArray × Value := (r.name, .pointer (some ⟨r.blk, 0, none⟩))
def FRec.cells (r : FRec) : Array Value := #[r.dv, .int .i64 r.synced]
def FRec.blocks (r : FRec) : List Nat := r.blk :: r.dv.ownBlock.toList
def DS.entries (s : DS) : List (ByteArray × Value) := s.recs.map FRec.entry
def recBlocks (l : List FRec) : List Nat := l.flatMap FRec.blocks
def DS.blocks (s : DS) : List Nat := s.p :: s.m :: recBlocks s.recs

/-- A file lies there. -/
structure FRec.In (w : World) (r : FRec) : Prop where
  cells : w.heap[r.blk]? = some (.cells r.cells 155 (0, 0))
  data : DataIs w r.dv r.data
  synced : r.synced ≤ r.data.length
  name : nameOk r.name.data.toList = true

structure DS.In (w : World) (s : DS) : Prop where
  top : w.heap[s.p]? = some (.cells s.cells 122 (0, 0))
  map : MapIs w s.m s.entries
  files : ∀ r ∈ s.recs, r.In w
  names : (s.recs.map (·.name)).Nodup
  blocks : s.blocks.Nodup
  count : s.recs.length ≤ 256
  room : s.used ≤ s.cap
  cap : s.cap ≤ 67108864
  armed : 0 ≤ s.armed ∧ s.armed ≤ 9223372036854775807
  wfc : True

theorem FRec.In.lt {w : World} {r : FRec} (h : r.In w) : ∀ k ∈ r.blocks, k < w.heap.size := by
  intro k hk
  simp only [FRec.blocks, List.mem_cons, Option.mem_toList] at hk
  rcases hk with rfl | hk
  · exact lt_of_heap h.cells
  · exact h.data.lt k hk

theorem mem_recBlocks {l : List FRec} {k : Nat} : k ∈ recBlocks l ↔ ∃ r ∈ l, k ∈ r.blocks := by simp [recBlocks]

theorem DS.In.lt {w : World} {s : DS} (h : s.In w) : ∀ k ∈ s.blocks, k < w.heap.size := by
  intro k hk
  simp only [DS.blocks, List.mem_cons] at hk
  rcases hk with rfl | rfl | hk
  · exact lt_of_heap h.top
  · exact h.map.lt
  · obtain ⟨r, hr, hk⟩ := mem_recBlocks.1 hk
    exact (h.files r hr).lt k hk

theorem FRec.In.of_blocks {w w' : World} {r : FRec} (h : r.In w) (hb : ∀ k ∈ r.blocks, w'.heap[k]? = w.heap[k]?) : r.In w' :=
  ⟨(hb _ (by simp [FRec.blocks])).trans h.cells, h.data.of_block (fun k hk => hb k (by simp [FRec.blocks, hk])), h.synced, h.name⟩

theorem DS.In.of_blocks {w w' : World} {s : DS} (h : s.In w) (hb : ∀ k ∈ s.blocks, w'.heap[k]? = w.heap[k]?) : s.In w' :=
  ⟨(hb _ (by simp [DS.blocks])).trans h.top, h.map.of_block (hb _ (by simp [DS.blocks])),
    fun r hr => (h.files r hr).of_blocks (fun k hk => hb k (by simp only [DS.blocks, List.mem_cons]; exact .inr (.inr (mem_recBlocks.2 ⟨r, hr, hk⟩)))),
    h.names, h.blocks, h.count, h.room, h.cap, h.armed, h.wfc⟩

/-- A step elsewhere leaves the disk as it is. -/
theorem DS.In.upd {w w' : World} {s : DS} {S : Nat → Prop} (h : s.In w) (hu : Upd S w w') (hn : ∀ k ∈ s.blocks, ¬ S k) : s.In w' :=
  h.of_blocks (fun k hk => hu.block k (h.lt k hk) (hn k hk))

/-! ### Plain data -/
structure FileA where
  name : ByteArray
  data : List UInt8
  synced : Nat

structure DiskA where
  cap : Nat
  files : List FileA
  down : Bool
  armed : Int
  cnt : Cnt

def FRec.abs (r : FRec) : FileA := ⟨r.name, r.data, r.synced⟩
def DS.abs (s : DS) : DiskA := ⟨s.cap, s.recs.map FRec.abs, s.down, s.armed, s.cnt⟩

/-- The disk in memory has become s2: nothing else has turned, but for new blocks. -/
structure Step (w w' : World) (s s2 : DS) : Prop where
  ins : s2.In w'
  p : s2.p = s.p
  upd : Upd (· ∈ s.blocks) w w'
  foot : ∀ k ∈ s2.blocks, k ∈ s.blocks ∨ w.heap.size ≤ k

theorem Step.refl {w : World} {s : DS} (h : s.In w) : Step w w s s := ⟨h, rfl, Upd.refl _ _, fun _ hk => .inl hk⟩

theorem Step.trans {w w1 w2 : World} {s s1 s2 : DS} (h : Step w w1 s s1) (h' : Step w1 w2 s1 s2) : Step w w2 s s2 :=
  ⟨h'.ins, h'.p.trans h.p, h.upd.trans h'.upd (fun k hk hm => (h.foot k hm).resolve_right (by omega)),
    fun k hk => (h'.foot k hk).elim (fun hm => h.foot k hm) (fun hm => .inr (Nat.le_trans h.upd.size hm))⟩

/-- New blocks and draws between. -/
theorem Step.of_upd {w w1 : World} {s : DS} (h : s.In w) (hu : Upd (fun _ => False) w w1) : Step w w1 s s :=
  ⟨h.upd hu (fun _ _ hf => hf), rfl, hu.mono (fun _ _ hf => hf.elim), fun _ hk => .inl hk⟩

/-! ### The cells, one by one -/
section
variable {w : World} {s : DS}
theorem DS.In.cell (h : s.In w) (i : Nat) : w.cell? ⟨s.p, i, none⟩ = s.cells[i]? := cell_of_row w s.p i _ _ _ h.top
theorem DS.In.free (h : s.In w) (i : Nat) : w.frozen? ⟨s.p, i, none⟩ = false := frozen_of_row w s.p i _ _ h.top
theorem DS.In.c_cap (h : s.In w) : w.cell? ⟨s.p, 0, none⟩ = some (.int .i64 s.cap) := h.cell 0
theorem DS.In.c_used (h : s.In w) : w.cell? ⟨s.p, 1, none⟩ = some (.int .i64 s.used) := h.cell 1
theorem DS.In.c_map (h : s.In w) : w.cell? ⟨s.p, 2, none⟩ = some (.map (some s.m)) := h.cell 2
theorem DS.In.c_down (h : s.In w) : w.cell? ⟨s.p, 3, none⟩ = some (.bool s.down) := h.cell 3
theorem DS.In.c_armed (h : s.In w) : w.cell? ⟨s.p, 4, none⟩ = some (.int .i64 s.armed) := h.cell 4
theorem DS.In.pm (h : s.In w) : s.p ≠ s.m := by
  have := h.blocks
  simp only [DS.blocks, List.nodup_cons, List.mem_cons, not_or] at this
  exact this.1.1
theorem DS.In.plt (h : s.In w) : s.p < w.heap.size := lt_of_heap h.top
end

/-- The blocks are all different. -/
theorem DS.In.blk_ne_p {w : World} {s : DS} (h : s.In w) {r : FRec} (hr : r ∈ s.recs) : r.blk ≠ s.p := by
  have hb := h.blocks
  simp only [DS.blocks, List.nodup_cons, List.mem_cons, not_or] at hb
  intro e
  exact hb.1.2 (mem_recBlocks.2 ⟨r, hr, by simp [FRec.blocks, e]⟩)

theorem DS.In.data_ne_p {w : World} {s : DS} (h : s.In w) {r : FRec} (hr : r ∈ s.recs) {g : Nat} (hg : r.dv.ownBlock = some g) : g ≠ s.p := by
  have hb := h.blocks
  simp only [DS.blocks, List.nodup_cons, List.mem_cons, not_or] at hb
  intro e
  exact hb.1.2 (mem_recBlocks.2 ⟨r, hr, by simp [FRec.blocks, hg, e]⟩)

theorem le_usedOf {l : List FRec} {r : FRec} (hr : r ∈ l) : r.data.length ≤ usedOf l := by
  unfold usedOf
  induction l with
  | nil => cases hr
  | cons x l ih =>
    simp only [List.map_cons, List.sum_cons]
    cases hr with
    | head => omega
    | tail _ h => have := ih h; omega

theorem DS.In.data_le {w : World} {s : DS} (h : s.In w) {r : FRec} (hr : r ∈ s.recs) : r.data.length ≤ 67108864 := by
  have h1 := le_usedOf hr
  have h2 := h.room
  have h3 := h.cap
  unfold DS.used at h2
  omega

/-- The file of a name. -/
def DS.fileAt (s : DS) (n : ByteArray) : Option FRec := s.recs.find? (fun r => r.name == n)
def DS.ptrAt (s : DS) (n : ByteArray) : Value := match s.fileAt n with | some r => .pointer (some ⟨r.blk, 0, none⟩) | none => .pointer none

theorem look_entries (l : List FRec) (n : ByteArray) : look (l.map FRec.entry) n = (l.find? (fun r => r.name == n)).map (fun r => .pointer (some ⟨r.blk, 0, none⟩)) := by
  induction l with
  | nil => rfl
  | cons r l ih =>
    rw [List.map_cons, look_cons, List.find?_cons]
    simp only [FRec.entry, beq_bytes] at ih ⊢
    by_cases h : r.name = n
    · simp [h]
    · simp [h, ih]

theorem ptrAt_look (s : DS) (n : ByteArray) : (look s.entries n).getD (.pointer none) = s.ptrAt n := by
  unfold DS.ptrAt DS.fileAt DS.entries
  rw [look_entries]
  cases s.recs.find? (fun r => r.name == n) <;> rfl

theorem fileAt_mem {s : DS} {n : ByteArray} {r : FRec} (h : s.fileAt n = some r) : r ∈ s.recs ∧ r.name = n := by
  have h1 := List.mem_of_find?_eq_some h
  have h2 := List.find?_some h
  simp only [beq_bytes, decide_eq_true_eq] at h2
  exact ⟨h1, h2⟩

def lookRes (down ok t there : Bool) : Int := if down then 3 else if !ok then 40 else if t && !there then 42 else 0

theorem DataIs.shape {w : World} {v : Value} {bs : List UInt8} (h : DataIs w v bs) : ∃ ao cap, v = .slice ao bs.length cap ∧ bs.length ≤ cap ∧ cap ≤ maxLen ∧ (ao = none → bs = [] ∧ cap = 0) ∧
    ∀ a, ao = some a → a.off = 0 ∧ a.spot = none ∧ v.ownBlock = some a.block ∧ ∀ i (hi : i < bs.length), w.cell? ⟨a.block, i, none⟩ = some (byteV bs[i]) := by
  rcases h with ⟨rfl, rfl⟩ | ⟨g, cap, cur, rfl, h1, h2, h3, h4, h5⟩
  · exact ⟨none, 0, rfl, Nat.le_refl _, by simp [maxLen], fun _ => ⟨rfl, rfl⟩, (fun a ha => by cases ha)⟩
  · refine ⟨some ⟨g, 0, none⟩, cap, rfl, h2, h4, (fun h => by cases h), fun a ha => ?_⟩
    cases ha
    refine ⟨rfl, rfl, rfl, fun i hi => ?_⟩
    rw [cell_of_row w g i cur _ _ h1]
    have := congrArg (fun l => l[i]?) h5
    simp only [List.getElem?_take, if_pos hi, List.getElem?_map, List.getElem?_eq_getElem hi, Option.map_some] at this
    simpa using this

theorem DataIs.of_owns {w : World} {base : Nat} {v : Value} {n : Nat} {xs : List UInt8} (h : w.ownsRow base 5 1 v n (xs.map byteV)) : DataIs w v xs := by
  obtain ⟨hl, h⟩ := h
  have hn : n = xs.length := by simpa using hl.symm
  subst hn
  rcases h with ⟨rfl, h0⟩ | ⟨g, cap, cur, rfl, _, h1, h2, h3, h4, h5⟩
  · exact .inl ⟨rfl, List.eq_nil_of_length_eq_zero h0⟩
  · exact .inr ⟨g, cap, cur, rfl, h1, h2, by omega, h3, by simpa using h5⟩

theorem FRec.In.c_dv {w : World} {r : FRec} (h : r.In w) : w.cell? ⟨r.blk, 0, none⟩ = some r.dv := cell_of_row w r.blk 0 _ _ _ h.cells
theorem FRec.In.c_synced {w : World} {r : FRec} (h : r.In w) : w.cell? ⟨r.blk, 1, none⟩ = some (.int .i64 r.synced) := cell_of_row w r.blk 1 _ _ _ h.cells

/-- A write into the first block alone. -/
theorem DS.In.top_turned {w w' : World} {s s2 : DS} (h : s.In w) (hu : Upd (fun k => k = s.p) w w') (hp : s2.p = s.p) (hm : s2.m = s.m) (hr : s2.recs = s.recs) (hc : s2.cap = s.cap)
    (ht : w'.heap[s.p]? = some (.cells s2.cells 122 (0, 0))) (ha : 0 ≤ s2.armed ∧ s2.armed ≤ 9223372036854775807) : Step w w' s s2 := by
  have hnd := h.blocks
  have hb : s2.blocks = s.blocks := by simp [DS.blocks, hp, hm, hr]
  have hne : ∀ k, k ∈ s.m :: recBlocks s.recs → k ≠ s.p := by
    intro k hk e
    subst e
    simp only [DS.blocks, List.nodup_cons] at hnd
    exact hnd.1 hk
  refine ⟨⟨by rw [hp]; exact ht, ?_, ?_, by rw [hr]; exact h.names, by rw [hb]; exact h.blocks, by rw [hr]; exact h.count, ?_, by rw [hc]; exact h.cap, ha, trivial⟩, hp, hu.mono ?_, ?_⟩
  · rw [hm, show s2.entries = s.entries from by simp [DS.entries, hr]]
    exact h.map.upd hu (hne _ (.head _))
  · intro r hr'
    rw [hr] at hr'
    refine (h.files r hr').of_blocks (fun k hk => ?_)
    have hmem : k ∈ recBlocks s.recs := mem_recBlocks.2 ⟨r, hr', hk⟩
    exact hu.block k (h.lt k (by simp [DS.blocks, hmem])) (hne k (.tail _ hmem))
  · have := h.room
    simp only [DS.used, hr, hc] at this ⊢
    exact this
  · intro k _ e
    simp [DS.blocks, e]
  · intro k hk
    rw [hb] at hk
    exact .inl hk

theorem lookRes_zero {d ok t th : Bool} : lookRes d ok t th = 0 ↔ d = false ∧ ok = true ∧ (t = true → th = true) := by
  cases d <;> cases ok <;> cases t <;> cases th <;> simp [lookRes]

end Go.Proofs.YtgaidmohdhaonaaGreatDoor

namespace Go.Proofs.YtgaidmohdhaonaaGreatDoor
set_option linter.unusedVariables false
set_option linter.unusedSimpArgs false
set_option linter.unnecessarySimpa false
set_option linter.unusedSectionVars false
open Go Go.RowKit

theorem zeroFile (w : World) : (zeroValue 152).run Tryz.prog w = .ok (.pointer none) w := by kernel_rfl

theorem run_lookup_file {w : World} {s : DS} (h : s.In w) (n : ByteArray) : (Instr.lookup 118 (.map (some s.m)) (.string n) false).run Tryz.prog w = .ok (s.ptrAt n) w := by
  rw [← ptrAt_look]
  exact run_lookup_str Tryz.underlying118 Tryz.underlying9 zeroFile h.map n

set_option maxHeartbeats 400000 in
theorem look_any {w : World} {s : DS} (hs : s.In w) (n : ByteArray) (t : Bool) :
    Calls Tryz.prog 89 #[.pointer (some ⟨s.p, 0, none⟩), .string n, .bool t] w fun e w' => e = .returned (.int .i64 (lookRes s.down (nameOk n.data.toList) t (s.fileAt n).isSome)) ∧ w' = w := by
  have cd := hs.c_down
  have cm := hs.c_map
  have hlk := run_lookup_file hs n
  unfold DS.ptrAt at hlk
  have HS := hid hs; clear hs
  generalize s.down = dn at cd ⊢
  cases dn
  · generalize hf : s.fileAt n = fo at hlk ⊢
    cases hok : nameOk n.data.toList
    · go_enter Tryz.func89, Tryz.ntmps89
      go_wp2_with (go_at_call 127; refine (named_any _ _).mono ?_; rintro e w' ⟨rfl, rfl⟩)
      go_ret
      exact ⟨rfl, rfl⟩
    · cases t
      · go_enter Tryz.func89, Tryz.ntmps89
        go_wp2_with (go_at_call 127; refine (named_any _ _).mono ?_; rintro e w' ⟨rfl, rfl⟩)
        go_ret
        exact ⟨rfl, rfl⟩
      · cases fo
        all_goals
          simp only [] at hlk
          go_enter Tryz.func89, Tryz.ntmps89
          go_wp2_with (go_at_call 127; refine (named_any _ _).mono ?_; rintro e w' ⟨rfl, rfl⟩)
          go_ret
          exact ⟨rfl, rfl⟩
  · go_enter Tryz.func89, Tryz.ntmps89
    go_wp2
    go_ret
    exact ⟨rfl, rfl⟩

set_option maxHeartbeats 400000 in
theorem free_any {w : World} {s : DS} (hs : s.In w) :
    Calls Tryz.prog 34 #[.pointer (some ⟨s.p, 0, none⟩)] w fun e w' => e = .returned (.int .i64 ((s.cap - s.used : Nat) : Int)) ∧ ∃ n, w' = w.drewN n := by
  have c0 := hs.c_cap
  have c1 := hs.c_used
  have h1 := hs.room
  have h2 := hs.cap
  clear hs
  generalize s.used = u at *
  generalize s.cap = c at *
  go_enter Tryz.func34, Tryz.ntmps34
  go_wp2
  go_quiet (fail)
  go_wp2
  go_ret
  exact ⟨congrArg (fun x => Ending.returned (Value.int .i64 x)) (by omega), _, rfl⟩

theorem capacity_any {w : World} {s : DS} (hs : s.In w) :
    Calls Tryz.prog 101 #[.pointer (some ⟨s.p, 0, none⟩)] w fun e w' => e = .returned (.int .i64 s.cap) ∧ w' = w := by
  have c0 := hs.c_cap
  clear hs
  go_enter Tryz.func101, Tryz.ntmps101
  go_wp2
  go_ret
  exact ⟨rfl, rfl⟩

theorem down_any {w : World} {s : DS} (hs : s.In w) :
    Calls Tryz.prog 39 #[.pointer (some ⟨s.p, 0, none⟩)] w fun e w' => e = .returned (.bool s.down) ∧ w' = w := by
  have c0 := hs.c_down
  clear hs
  go_enter Tryz.func39, Tryz.ntmps39
  go_wp2
  go_ret
  exact ⟨rfl, rfl⟩

def sizeRes (s : DS) (n : ByteArray) : Int := if lookRes s.down (nameOk n.data.toList) true (s.fileAt n).isSome = 0 then (((s.fileAt n).map (·.data.length)).getD 0 : Nat) else 0

set_option maxHeartbeats 400000 in
theorem size_any {w : World} {s : DS} (hs : s.In w) (n : ByteArray) :
    Calls Tryz.prog 43 #[.pointer (some ⟨s.p, 0, none⟩), .string n] w fun e w' =>
      e = .returned (.tuple #[.int .i64 (sizeRes s n), .int .i64 (lookRes s.down (nameOk n.data.toList) true (s.fileAt n).isSome)]) ∧ w' = w := by
  have HL := hid (look_any hs n true)
  have cm := hs.c_map
  have hlk := run_lookup_file hs n
  unfold DS.ptrAt at hlk
  unfold sizeRes
  generalize hd : s.down = dn at HL ⊢
  generalize hf : s.fileAt n = fo at HL hlk ⊢
  by_cases hr : lookRes dn (nameOk n.data.toList) true fo.isSome = 0
  · obtain ⟨rfl, hok, hth⟩ := lookRes_zero.1 hr
    cases fo with
    | none => simp at hth
    | some r =>
      simp only [] at hlk
      obtain ⟨hrm, _⟩ := fileAt_mem hf
      have c1 := (hs.files r hrm).c_dv
      obtain ⟨ao, cap, hdv, _, _, _, _⟩ := (hs.files r hrm).data.shape
      rw [hdv] at c1
      rw [hr] at HL ⊢
      clear hf hd hs hok hth hdv hr
      simp only [if_true, Option.map_some, Option.getD_some]
      go_enter Tryz.func43, Tryz.ntmps43
      go_wp2_with (go_at_call 89; refine HL.out.mono ?_; rintro e w' ⟨rfl, rfl⟩)
      go_ret2
      exact ⟨rfl, rfl⟩
  · rw [if_neg hr]
    generalize lookRes dn (nameOk n.data.toList) true fo.isSome = e0 at *
    have hb : (e0 != 0) = true := by simpa using hr
    clear hr hf hd hlk cm hs
    go_enter Tryz.func43, Tryz.ntmps43
    go_wp2_with (go_at_call 89; refine HL.out.mono ?_; rintro e w' ⟨rfl, rfl⟩)
    go_ret2
    exact ⟨rfl, rfl⟩

theorem ownBlock_owns {w : World} {base : Nat} {e : TypeId} {sz n : Nat} {v : Value} {xs : List Value} (h : w.ownsRow base e sz v n xs) : ∀ b, v.ownBlock = some b → base ≤ b := fun b hb => (h.lt b hb).1

def rangeBad (a n : Int) (len : Nat) : Bool := decide (a < 0 ∨ n < 0 ∨ (len : Int) < a ∨ (len : Int) - a < n)

/-- The disk of which one Read more was answered. -/
def DS.bumpRead (s : DS) : DS := { s with cnt := { s.cnt with reads := wrap64 (s.cnt.reads + 1) } }

theorem step_bumpRead {w : World} {s : DS} (hs : s.In w) : Step w (w.setCell ⟨s.p, 10, none⟩ (.int .i64 (wrap64 (s.cnt.reads + 1)))) s s.bumpRead :=
  hs.top_turned (Upd.cell_only _ _ _ _) rfl rfl rfl rfl (heap_setCell_at _ _ _ _ _ _ hs.top) hs.armed

set_option maxHeartbeats 800000 in
theorem read_bad {w : World} {s : DS} (hs : s.In w) (n : ByteArray) (at' k : Int)
    (hbad : lookRes s.down (nameOk n.data.toList) true (s.fileAt n).isSome ≠ 0) :
    Calls Tryz.prog 77 #[.pointer (some ⟨s.p, 0, none⟩), .string n, .int .i64 at', .int .i64 k] w fun e w' =>
      e = .returned (.tuple #[.slice none 0 0, .int .i64 (lookRes s.down (nameOk n.data.toList) true (s.fileAt n).isSome)]) ∧ w' = w := by
  have HL := hid (look_any hs n true)
  clear hs
  generalize lookRes s.down (nameOk n.data.toList) true (s.fileAt n).isSome = e0 at *
  have hb : (e0 != 0) = true := by simpa using hbad
  clear hbad
  go_enter Tryz.func77, Tryz.ntmps77
  go_wp2_with (go_at_call 89; refine HL.out.mono ?_; rintro e w' ⟨rfl, rfl⟩)
  go_ret2
  exact ⟨rfl, rfl⟩

set_option maxHeartbeats 800000 in
theorem read_range {w : World} {s : DS} (hs : s.In w) (n : ByteArray) (at' k : Int) {r : FRec} (hf : s.fileAt n = some r)
    (hok : lookRes s.down (nameOk n.data.toList) true (s.fileAt n).isSome = 0) (hbad : rangeBad at' k r.data.length = true) :
    Calls Tryz.prog 77 #[.pointer (some ⟨s.p, 0, none⟩), .string n, .int .i64 at', .int .i64 k] w fun e w' =>
      e = .returned (.tuple #[.slice none 0 0, .int .i64 43]) ∧ w' = w := by
  have HL := hid (look_any hs n true)
  have cm := hs.c_map
  have hlk := run_lookup_file hs n
  unfold DS.ptrAt at hlk
  rw [hok] at HL
  rw [hf] at hlk
  obtain ⟨hrm, _⟩ := fileAt_mem hf
  have c1 := (hs.files r hrm).c_dv
  obtain ⟨ao, cap, hdv, hcap, hm, -, -⟩ := (hs.files r hrm).data.shape
  rw [hdv] at c1
  simp only [] at hlk
  have hm' : cap ≤ 9223372036854775807 := by simpa [maxLen] using hm
  clear hm
  have hbad' : at' < 0 ∨ k < 0 ∨ (r.data.length : Int) < at' ∨ (r.data.length : Int) - at' < k := by simpa [rangeBad] using hbad
  clear hf hok hs hrm hdv hbad
  generalize r.data.length = len at *
  by_cases g1 : at' < 0
  · go_enter Tryz.func77, Tryz.ntmps77
    go_wp2_with (go_at_call 89; refine HL.out.mono ?_; rintro e w' ⟨rfl, rfl⟩)
    go_ret2
    exact ⟨rfl, rfl⟩
  by_cases g2 : k < 0
  · go_enter Tryz.func77, Tryz.ntmps77
    go_wp2_with (go_at_call 89; refine HL.out.mono ?_; rintro e w' ⟨rfl, rfl⟩)
    go_ret2
    exact ⟨rfl, rfl⟩
  by_cases g3 : (len : Int) < at'
  · go_enter Tryz.func77, Tryz.ntmps77
    go_wp2_with (go_at_call 89; refine HL.out.mono ?_; rintro e w' ⟨rfl, rfl⟩)
    go_ret2
    exact ⟨rfl, rfl⟩
  have g4 : (len : Int) - at' < k := by omega
  clear hbad'
  go_enter Tryz.func77, Tryz.ntmps77
  go_wp2_with (go_at_call 89; refine HL.out.mono ?_; rintro e w' ⟨rfl, rfl⟩)
  go_ret2
  exact ⟨rfl, rfl⟩

set_option maxRecDepth 100000 in
set_option maxHeartbeats 800000 in
theorem read_yes {w : World} {s : DS} (hs : s.In w) (n : ByteArray) (a k : Nat) {r : FRec} (hf : s.fileAt n = some r)
    (hok : lookRes s.down (nameOk n.data.toList) true (s.fileAt n).isSome = 0) (hin : a + k ≤ r.data.length) :
    Calls Tryz.prog 77 #[.pointer (some ⟨s.p, 0, none⟩), .string n, .int .i64 a, .int .i64 k] w fun e w' =>
      ∃ v, e = .returned (.tuple #[v, .int .i64 0]) ∧ DataIs w' v ((r.data.drop a).take k) ∧ (∀ b, v.ownBlock = some b → w.heap.size ≤ b) ∧ Step w w' s s.bumpRead := by
  have HL := hid (look_any hs n true)
  have cm := hs.c_map
  have c5 : w.cell? ⟨s.p, 5 + 5, none⟩ = some (.int .i64 s.cnt.reads) := hs.cell 10
  have f5 := hs.free (5 + 5)
  have hlk := run_lookup_file hs n
  unfold DS.ptrAt at hlk
  rw [hok] at HL
  rw [hf] at hlk
  obtain ⟨hrm, _⟩ := fileAt_mem hf
  have c1 := (hs.files r hrm).c_dv
  obtain ⟨ao, cap, hdv, hcap, hm, hnone, hsome⟩ := (hs.files r hrm).data.shape
  rw [hdv] at c1
  simp only [] at hlk
  have hm' : cap ≤ 9223372036854775807 := by simpa [maxLen] using hm
  clear hm
  have hne : r.blk ≠ s.p := hs.blk_ne_p hrm
  have hdl := hs.data_le hrm
  have HS := hid hs
  have HK := hid (show s.bumpRead = s.bumpRead from rfl)
  cases ao with
  | none =>
    obtain ⟨hn0, rfl⟩ := hnone rfl
    rw [hn0] at hin c1
    obtain ⟨rfl, rfl⟩ : a = 0 ∧ k = 0 := by simp at hin; omega
    clear hf hok hs hrm hdv hsome hnone
    go_enter Tryz.func77, Tryz.ntmps77
    go_wp2_with (go_at_call 89; refine HL.out.mono ?_; rintro e w' ⟨rfl, rfl⟩)
    refine (Tryz.bytes_Clone_nil _ _ _).mono ?_
    rintro e w1 ⟨rfl, rfl⟩
    go_wp2
    go_ret2
    exact ⟨_, rfl, .inl ⟨rfl, by simp⟩, by simp [Value.ownBlock], step_bumpRead HS.out⟩
  | some ad =>
    obtain ⟨h1, h2, h3, h4⟩ := hsome ad rfl
    obtain ⟨g, off, spot⟩ := ad
    simp only at h1 h2
    subst h1 h2
    have HD := hid h4
    have HG := hid (show g ≠ s.p from hs.data_ne_p hrm h3)
    clear hf hok hs hrm hdv hsome hnone h4 h3
    go_enter Tryz.func77, Tryz.ntmps77
    go_wp2_with (go_at_call 89; refine HL.out.mono ?_; rintro e w' ⟨rfl, rfl⟩)
    · obtain ⟨rfl, rfl⟩ : cap = a ∧ k = 0 := by omega
      refine (Tryz.bytes_Clone_at _ 0 _ [] _ rfl (by omega) (by intro i hi; omega)).mono ?_
      rintro e w1 ⟨v, rfl, hv, hne', hb⟩
      go_wp2
      go_ret2
      refine ⟨v, rfl, ?_, ?_, (step_bumpRead HS.out).trans (Step.of_upd (step_bumpRead HS.out).ins (.of_below hb))⟩
      · simp only [List.take_zero]; exact DataIs.of_owns (xs := []) hv
      · intro b hb'; have := ownBlock_owns hv b hb'; simpa using this
    · have hlen : ((r.data.drop a).take k).length = k := by simp; omega
      refine (Tryz.bytes_Clone_at _ k _ (((r.data.drop a).take k).map (fun b => (b.toNat : Int))) _ (by simp; omega) (by omega) ?_).mono ?_
      · intro i hi
        have hi' : a + i < r.data.length := by omega
        have hg : g ≠ s.p := HG.out
        have hcell := HD.out (a + i) hi'
        rw [show (Addr.add ⟨g, a, none⟩ i : Addr) = ⟨g, a + i, none⟩ from by simp [Addr.add]]
        rw [cell_setCell_ne _ hg, hcell]
        simp only [byteV, Option.some.injEq, Value.int.injEq, true_and]
        rw [List.getD_eq_getElem?_getD, List.getElem?_map, List.getElem?_take, if_pos hi, List.getElem?_drop, List.getElem?_eq_getElem hi']
        rfl
      rintro e w1 ⟨v, rfl, hv, hne', hb⟩
      go_wp2
      go_ret2
      refine ⟨v, rfl, ?_, ?_, (step_bumpRead HS.out).trans (Step.of_upd (step_bumpRead HS.out).ins (.of_below hb))⟩
      · rw [List.map_map] at hv; exact DataIs.of_owns hv
      · intro b hb'; have := ownBlock_owns hv b hb'; simpa using this

end Go.Proofs.YtgaidmohdhaonaaGreatDoor

namespace Go.Proofs.YtgaidmohdhaonaaGreatDoor
set_option linter.unusedVariables false
set_option linter.unusedSimpArgs false
set_option linter.unnecessarySimpa false
set_option linter.unusedSectionVars false
open Go Go.RowKit

def lenOf : Value → Nat | .slice _ n _ => n | _ => 0

theorem lenOf_owns {w : World} {base : Nat} {e : TypeId} {sz n : Nat} {v : Value} {xs : List Value} (h : w.ownsRow base e sz v n xs) : lenOf v = n := by
  rcases h.2 with ⟨rfl, rfl⟩ | ⟨g, cap, cur, rfl, _⟩ <;> rfl

theorem owns_lower {w : World} {base base' : Nat} {e : TypeId} {sz n : Nat} {v : Value} {xs : List Value} (h : w.ownsRow base e sz v n xs) (hb : base' ≤ base) : w.ownsRow base' e sz v n xs := by
  refine ⟨h.1, h.2.imp id ?_⟩
  rintro ⟨g, cap, cur, hv, hg, r⟩
  exact ⟨g, cap, cur, hv, by omega, r⟩

theorem IterIs.lt {w : World} {r m : Nat} {E left : List (ByteArray × Value)} (h : IterIs w r m E left) : r < w.heap.size := by
  obtain ⟨_, _, _, _, _, _, h2, _⟩ := h
  exact lt_of_heap h2

theorem IterIs.kept {w w' : World} {r m : Nat} {E left : List (ByteArray × Value)} {o : Obj} {v : Value} (h : IterIs w r m E left) (hg : (w.alloc o).grownBy w' v.ownBlock) (hv : ∀ k, v.ownBlock = some k → k ≠ r ∧ k ≠ m) : IterIs w' r m E left := by
  obtain ⟨es, c, si, se, la, h1, h2, rest⟩ := h
  have hb : ∀ k, k < w.heap.size → (∀ j, v.ownBlock = some j → j ≠ k) → w'.heap[k]? = w.heap[k]? := by
    intro k hk hn
    rw [hg.block k (by simp; omega) (fun e => hn k e.symm rfl), heap_alloc_past _ _ _ hk]
  exact ⟨es, c, si, se, la, (hb m (lt_of_heap h1) (fun j hj => (hv j hj).2)).trans h1, (hb r (lt_of_heap h2) (fun j hj => (hv j hj).1)).trans h2, rest⟩

theorem Tryz.info9' : (Tryz.prog.info? 9).map (fun i => (i.zero, i.size, i.bytes)) = some (some (.string ByteArray.empty), 1, 16) := by kernel_rfl

def DS.names (s : DS) : List ByteArray := s.recs.map (·.name)

set_option maxRecDepth 100000 in
set_option maxHeartbeats 1000000 in
theorem names_any {w : World} {s : DS} (hs : s.In w) :
    Calls Tryz.prog 93 #[.pointer (some ⟨s.p, 0, none⟩)] w fun e w' =>
      ∃ v n, e = .returned v ∧ w'.ownsRow w.heap.size 9 1 v n ((sortNames s.names).map Value.string) ∧ Upd (fun _ => False) w w' := by
  have cm := hs.c_map
  obtain ⟨i0, hi, hz0, hz1, hz2⟩ := info_parts Tryz.info9'
  obtain ⟨w1, hrange, hit, hup⟩ := run_range_map (P := Tryz.prog) Tryz.underlying118 hs.map
  go_enter Tryz.func93, Tryz.ntmps93
  go_wp2
  have hEn : s.entries.length ≤ 256 := by simpa [DS.entries] using hs.count
  have HS := hid hs
  have HR := hid hup
  have hmlt := hs.map.lt
  have hrm : w.heap.size ≠ s.m := by omega
  clear hrange hs cm hup
  go_loopw [3] (fun v wr => ∃ done left : List (ByteArray × Value), (done ++ left).Perm s.entries ∧ wr.ownsRow (w.heap.size + 1) 9 1 v done.length (done.map (fun x => Value.string x.1)) ∧ IterIs wr w.heap.size s.m s.entries left ∧ Upd (fun _ => False) w wr)
    (fun v _ => 256 - lenOf v)
  case atStart => exact ⟨[], s.entries, List.Perm.refl _, World.ownsRow_nil _ _ _ _, hit, HR.out⟩
  case round =>
    obtain ⟨done, left, hperm, hown, hit', hup'⟩ := hrel
    have hne : ∀ k, _ → w.heap.size + 1 ≤ k := fun k hk => (hown.lt k hk).1
    have hlen := lenOf_owns hown
    have HP := hid hperm
    have hdl : done.length + left.length ≤ 256 := by have := hperm.length_eq; simp at this; omega
    have HU := hid hup'
    have HN := hid hne
    have HL := hid hlen
    clear hperm hup' hne hlen
    by_cases hle : left = []
    · subst hle
      have hnx := fun T' => run_next_end (P := Tryz.prog) hit' T'
      clear hit hit'
      have hown' := hown
      have hlt0 := hown.lt
      obtain ⟨hl0, hv0⟩ := hown'
      have HO := hid hown
      have hsz : (done.map (fun x => x.1.data.toList)).length = done.length := by simp
      have hmap : done.map (fun x => Value.string x.1) = (done.map (fun x => x.1.data.toList)).map encStr := by
        rw [List.map_map]; apply List.map_congr_left; intro x _; simp [encStr]
      have hsort : sortNames s.names = ((done.map (fun x => x.1.data.toList)).mergeSort leB).map toBA := by
        have hp : s.names.Perm (done.map (·.1)) := by
          have := (HP.out.map (·.1)).symm
          simp only [List.append_nil] at this
          have e : s.entries.map (·.1) = s.names := by simp [DS.entries, DS.names, FRec.entry]
          rwa [e] at this
        rw [sortNames_congr hp, sortNames, List.map_map]; rfl
      have HM := hid hmap; have HT := hid hsort
      have hlen' : ((done.map (fun x => x.1.data.toList)).mergeSort leB).length = done.length := by rw [List.length_mergeSort, hsz]
      have HL' := hid hlen'
      clear hmap hsort hlen' hl0 hlt0
      rcases hv0 with ⟨hv, hd0⟩ | ⟨g, cap, cur, hv, hr⟩
      · have hd : done = [] := List.eq_nil_of_length_eq_zero hd0
        subst hd
        rw [hv]
        clear hown
        go_wp2_with (go_at_call 146; refine (Tryz.slices_Sort_string_none _ _ _).mono ?_; rintro e w' ⟨rfl, rfl⟩)
        go_ret
        refine ⟨_, 0, rfl, ?_, HU.out⟩
        rw [HT.out, List.map_nil, List.mergeSort_nil, List.map_nil, List.map_nil]
        exact World.ownsRow_nil _ _ _ _
      · rw [hv] at hown HN ⊢
        rw [HM.out] at hown
        obtain ⟨hh, hg, hss⟩ := holds_owned hown
        have HH := hid hh; have HW := hid hown
        clear hh hown hr
        go_wp2_with (go_at_call 146; rw [← hsz]; refine (Tryz.slices_Sort_string _ _ _ _ _ HH.out hg (by omega)).mono ?_; rintro e w' ⟨rfl, q, os, rfl⟩)
        go_ret
        refine ⟨_, done.length, rfl, ?_, HU.out.trans (upd_grow_put _ _ _ _ _ _ _) ?_⟩
        · rw [HT.out, List.map_map]
          exact owns_lower (owns_sorted HW.out HL'.out) (by omega)
        · intro k hk e
          have := HN.out g rfl
          omega
    · obtain ⟨pre, x, post, w2, hpp, hnx, hen, hit2, hup2⟩ := run_next_some (P := Tryz.prog) hit' hle hrm
      clear hit hit'
      have hb2 := hup2.size
      have hown2 := owns_upd hown hup2 (fun k hk e => by have := HN.out k hk; omega)
      have HPP := hid hpp; have HI2 := hid hit2; have HU2 := hid hup2
      clear hpp hit2 hup2 hown
      go_wp2_with (at_builtin; refine wpList_append_own _ rfl _ _ 73 rfl (w.heap.size + 1) 9 i0 (.string ByteArray.empty) 1 16 Tryz.underlying73 hi hz0 hz1 hz2 rfl (by decide) _ _ _ rfl (hown2.alloc _) ⟨w2.heap.size, 0, none⟩ 1 1 [.string x.1] rfl rfl ?c1 ?c2 ?c3 ?c4 ?c5 ?_)
      case c1 =>
        intro j u hj
        match j, hj with
        | 0, hj => simp at hj; subst hj; simp [Addr.add]
      case c2 => intro u hu; simp at hu; subst hu; rfl
      case c3 => unfold maxLen; omega
      case c4 => omega
      case c5 => have := HI2.out.lt; simp; omega
      intro v' w3 hown3 hg3 _
      have hU3 : Upd (fun _ => False) w w3 := by
        refine ((HU.out.trans HU2.out (fun k hk e => by omega)).alloc _).grown hg3 ?_
        intro k hk hlt
        have := HN.out k hk
        omega
      have hlen3 := lenOf_owns hown3
      have hperm3 : ((done ++ [x]) ++ (pre ++ post)).Perm s.entries := by
        refine List.Perm.trans ?_ HP.out
        rw [HPP.out, List.append_assoc]
        refine List.Perm.append_left _ ?_
        show (x :: (pre ++ post)).Perm _
        exact List.perm_middle.symm
      have hown4 : w3.ownsRow (w.heap.size + 1) 9 1 v' (done ++ [x]).length ((done ++ [x]).map (fun x => Value.string x.1)) := by
        rw [List.length_append, List.map_append]; exact hown3
      have hit3 : IterIs w3 w.heap.size s.m s.entries (pre ++ post) := HI2.out.kept hg3 (fun k hk => by have := HN.out k hk; omega)
      have H1 := hid hU3; have H3 := hid hlen3; have H4 := hid hperm3; have H5 := hid hown4; have H6 := hid hit3
      clear hU3 hlen3 hperm3 hown4 hit3 hown3 hown2 hnx hen hg3
      go_wp2
      go_roundw
      case rel => exact ⟨done ++ [x], pre ++ post, H4.out, H5.out, H6.out, H1.out⟩
      case measure => rw [H3.out, HL.out]; have : 0 < left.length := List.length_pos_iff.2 hle; omega

end Go.Proofs.YtgaidmohdhaonaaGreatDoor

namespace Go.Proofs.YtgaidmohdhaonaaGreatDoor
set_option linter.unusedVariables false
set_option linter.unusedSimpArgs false
set_option linter.unnecessarySimpa false
set_option linter.unusedSectionVars false
open Go Go.RowKit

theorem run_eql_ptr_some {P : Program} {t e : TypeId} {q : TypeInfo} (ht : P.underlying t = some (.pointer e)) (hte : P.info? e = some q) (hsz : q.size ≠ 0) (b i j : Nat) (w : World) :
    (binOp .eql t (.pointer (some ⟨b, i, none⟩)) (.pointer (some ⟨b, j, none⟩))).run P w = .ok (.bool (decide (i = j))) w := by
  have ha : ((⟨b, i, none⟩ : Addr) == ⟨b, j, none⟩) = decide (i = j) := by
    by_cases h : i = j
    · subst h; simp
    · have : (⟨b, i, none⟩ : Addr) ≠ ⟨b, j, none⟩ := fun e => by simp only [Addr.mk.injEq] at e; exact h e.2.1
      simp [h]
  have hs : (sameAddr ⟨b, i, none⟩ ⟨b, j, none⟩).run P w = .ok (decide (i = j)) w := by simp [sameAddr, ha]
  have h : ∀ d : Nat, (Op.equalIn (d + 1) t (.pointer (some ⟨b, i, none⟩)) (.pointer (some ⟨b, j, none⟩))).run P w = .ok (decide (i = j)) w := fun d => by
    simp [Op.equalIn, run_underlying ht, sizeOf, typeInfo, hte, hsz, hs]
  simp only [binOp]
  simp [Op.equal, Op.maxDepth, h 9999]

theorem run_eql_ptr_none {P : Program} {t e : TypeId} (ht : P.underlying t = some (.pointer e)) (b j : Nat) (w : World) :
    (binOp .eql t (.pointer none) (.pointer (some ⟨b, j, none⟩))).run P w = .ok (.bool false) w := by
  have h : ∀ d : Nat, (Op.equalIn (d + 1) t (.pointer none) (.pointer (some ⟨b, j, none⟩))).run P w = .ok false w := fun d => by
    simp [Op.equalIn, run_underlying ht]
  simp only [binOp]
  simp [Op.equal, Op.maxDepth, h 9999]

theorem Tryz.infoInt : (Tryz.prog.info? 3).map (fun i => i.size) = some 1 := by kernel_rfl
theorem Tryz.eqlInt (b i j : Nat) (w : World) : (binOp .eql 156 (.pointer (some ⟨b, i, none⟩)) (.pointer (some ⟨b, j, none⟩))).run Tryz.prog w = .ok (.bool (decide (i = j))) w := by
  obtain ⟨q, hq, hs⟩ := Option.map_eq_some_iff.1 Tryz.infoInt
  exact run_eql_ptr_some Tryz.underlying156 hq (by omega) b i j w

/-- The deferred step: nothing was done. -/
theorem act1_no {w : World} {bx bd bc : Nat} (u : FrameMode) (hx : w.cell? ⟨bx, 0, none⟩ = some (.bool false)) :
    CallsD Tryz.prog 145 #[.pointer (some ⟨bx, 0, none⟩), .pointer (some ⟨bd, 0, none⟩), .pointer (some ⟨bc, 0, none⟩)] u w fun e u' w' => u' = u ∧ e = .returned (.tuple #[]) ∧ w' = w := by
  go_enter_d Tryz.func145, Tryz.ntmps145
  go_wp2
  go_end0
  exact ⟨rfl, rfl⟩

/-- It was done, and is counted. -/
theorem act1_one {w : World} {bx bd bc p : Nat} {n : Int} (u : FrameMode) (hx : w.cell? ⟨bx, 0, none⟩ = some (.bool true)) (hd : w.cell? ⟨bd, 0, none⟩ = some (.pointer (some ⟨p, 0, none⟩)))
    (hc : w.cell? ⟨bc, 0, none⟩ = some (.pointer none)) (c5 : w.cell? ⟨p, 5, none⟩ = some (.int .i64 n)) (f5 : w.frozen? ⟨p, 5, none⟩ = false) (h1 : bc ≠ p) :
    CallsD Tryz.prog 145 #[.pointer (some ⟨bx, 0, none⟩), .pointer (some ⟨bd, 0, none⟩), .pointer (some ⟨bc, 0, none⟩)] u w fun e u' w' => u' = u ∧ e = .returned (.tuple #[]) ∧ w' = w.setCell ⟨p, 5, none⟩ (.int .i64 (wrap64 (n + 1))) := by
  go_enter_d Tryz.func145, Tryz.ntmps145
  go_wp2
  go_end0
  exact ⟨rfl, rfl⟩

theorem act1_two {w : World} {bx bd bc p j : Nat} {n k : Int} (u : FrameMode) (hx : w.cell? ⟨bx, 0, none⟩ = some (.bool true)) (hd : w.cell? ⟨bd, 0, none⟩ = some (.pointer (some ⟨p, 0, none⟩)))
    (hc : w.cell? ⟨bc, 0, none⟩ = some (.pointer (some ⟨p, j, none⟩))) (c5 : w.cell? ⟨p, 5, none⟩ = some (.int .i64 n)) (f5 : w.frozen? ⟨p, 5, none⟩ = false) (h1 : bc ≠ p)
    (cj : w.cell? ⟨p, j, none⟩ = some (.int .i64 k)) (fj : w.frozen? ⟨p, j, none⟩ = false) (hj : 5 ≠ j) :
    CallsD Tryz.prog 145 #[.pointer (some ⟨bx, 0, none⟩), .pointer (some ⟨bd, 0, none⟩), .pointer (some ⟨bc, 0, none⟩)] u w fun e u' w' => u' = u ∧ e = .returned (.tuple #[]) ∧
      w' = (w.setCell ⟨p, 5, none⟩ (.int .i64 (wrap64 (n + 1)))).setCell ⟨p, j, none⟩ (.int .i64 (wrap64 (k + 1))) := by
  go_enter_d Tryz.func145, Tryz.ntmps145
  go_wp2
  go_end0
  exact ⟨rfl, rfl⟩

def bump (c : Cnt) : Option Nat → Cnt
  | none => { c with acts := wrap64 (c.acts + 1) }
  | some 6 => { c with acts := wrap64 (c.acts + 1), appends := wrap64 (c.appends + 1) }
  | some 7 => { c with acts := wrap64 (c.acts + 1), syncs := wrap64 (c.syncs + 1) }
  | some 8 => { c with acts := wrap64 (c.acts + 1), renames := wrap64 (c.renames + 1) }
  | some 9 => { c with acts := wrap64 (c.acts + 1), deletes := wrap64 (c.deletes + 1) }
  | some _ => c

/-- An act that nothing refuses: its answer, and the disk behind it; F: the files, were it done. -/
def actA (a : DiskA) (co : Option Nat) (F : List FileA) : Int × DiskA :=
  if a.armed = 0 then (0, { a with files := F, cnt := bump a.cnt co })
  else if a.armed = 1 then (if co = some 6 then (3, { a with files := F, cnt := bump a.cnt co, armed := 0, down := true }) else (3, { a with armed := 0, down := true }))
  else (0, { a with files := F, cnt := bump a.cnt co, armed := a.armed - 1 })

def cntPtr (p : Nat) : Option Nat → Option Addr
  | none => none
  | some j => some ⟨p, j, none⟩

/-- What the act itself does: from a disk s1 to one whose files are F, all else alike. -/
def Does (G : Nat) (caps : Array Value) (w : World) (s : DS) (F : List FileA) : Prop :=
  ∀ W s1, s1.In W → Upd (fun k => k = s.p) w W → s1.p = s.p → s1.m = s.m → s1.recs = s.recs → s1.cap = s.cap → s1.cnt = s.cnt →
    Calls Tryz.prog G caps W fun e W' => e = .returned (.tuple #[]) ∧ ∃ s2, Step W W' s1 s2 ∧ s2.cap = s1.cap ∧ s2.down = s1.down ∧ s2.armed = s1.armed ∧ s2.cnt = s1.cnt ∧ s2.recs.map FRec.abs = F

def cntAt (c : Cnt) : Nat → Int
  | 6 => c.appends
  | 7 => c.syncs
  | 8 => c.renames
  | 9 => c.deletes
  | _ => 0

def DS.bumped (s : DS) (co : Option Nat) : DS := { s with cnt := bump s.cnt co }

/-- The deferred step, whatever it counts. -/
theorem act1_yes {w : World} {s : DS} (hs : s.In w) {bx bd bc : Nat} (u : FrameMode) {co : Option Nat} (hco : co = none ∨ co = some 6 ∨ co = some 7 ∨ co = some 8 ∨ co = some 9)
    (hx : w.cell? ⟨bx, 0, none⟩ = some (.bool true)) (hd : w.cell? ⟨bd, 0, none⟩ = some (.pointer (some ⟨s.p, 0, none⟩))) (hc : w.cell? ⟨bc, 0, none⟩ = some (.pointer (cntPtr s.p co))) (h1 : bc ≠ s.p) :
    CallsD Tryz.prog 145 #[.pointer (some ⟨bx, 0, none⟩), .pointer (some ⟨bd, 0, none⟩), .pointer (some ⟨bc, 0, none⟩)] u w fun e u' w' => u' = u ∧ e = .returned (.tuple #[]) ∧ Step w w' s (s.bumped co) := by
  have c5 := hs.cell 5
  have f5 := hs.free 5
  have one : Step w (w.setCell ⟨s.p, 5, none⟩ (.int .i64 (wrap64 (s.cnt.acts + 1)))) s (s.bumped none) :=
    hs.top_turned (Upd.cell_only _ _ _ _) rfl rfl rfl rfl (heap_setCell_at _ _ _ _ _ _ hs.top) hs.armed
  have two : ∀ (j : Nat), j = 6 ∨ j = 7 ∨ j = 8 ∨ j = 9 → Step w ((w.setCell ⟨s.p, 5, none⟩ (.int .i64 (wrap64 (s.cnt.acts + 1)))).setCell ⟨s.p, j, none⟩ (.int .i64 (wrap64 (cntAt s.cnt j + 1)))) s (s.bumped (some j)) := by
    intro j hj
    refine hs.top_turned ((Upd.cell_only _ _ _ _).trans (Upd.cell_only _ _ _ _) (fun k _ h => h)) rfl rfl rfl rfl ?_ hs.armed
    rw [heap_setCell_at _ _ _ _ _ _ (heap_setCell_at _ _ _ _ _ _ hs.top)]
    rcases hj with rfl | rfl | rfl | rfl <;> rfl
  rcases hco with rfl | rfl | rfl | rfl | rfl
  · exact (act1_one u hx hd hc c5 f5 h1).mono fun e u' w' ⟨a, b, c⟩ => ⟨a, b, c ▸ one⟩
  · exact (act1_two u hx hd hc c5 f5 h1 (hs.cell 6) (hs.free 6) (by omega)).mono fun e u' w' ⟨a, b, c⟩ => ⟨a, b, c ▸ two 6 (by simp)⟩
  · exact (act1_two u hx hd hc c5 f5 h1 (hs.cell 7) (hs.free 7) (by omega)).mono fun e u' w' ⟨a, b, c⟩ => ⟨a, b, c ▸ two 7 (by simp)⟩
  · exact (act1_two u hx hd hc c5 f5 h1 (hs.cell 8) (hs.free 8) (by omega)).mono fun e u' w' ⟨a, b, c⟩ => ⟨a, b, c ▸ two 8 (by simp)⟩
  · exact (act1_two u hx hd hc c5 f5 h1 (hs.cell 9) (hs.free 9) (by omega)).mono fun e u' w' ⟨a, b, c⟩ => ⟨a, b, c ▸ two 9 (by simp)⟩

/-- A cell of a block that is none of the disk's stands behind a step. -/
theorem Step.other {w w' : World} {s s2 : DS} (h : Step w w' s s2) {b i : Nat} (hb : b ∉ s.blocks) (hlt : b < w.heap.size) : w'.cell? ⟨b, i, none⟩ = w.cell? ⟨b, i, none⟩ :=
  World.cell?_of_block (h.upd.block b hlt hb)

set_option maxRecDepth 100000 in
set_option maxHeartbeats 1000000 in
theorem act_plain {w : World} {s : DS} (hs : s.In w) {G : Nat} {caps : Array Value} {co : Option Nat} {F : List FileA} (hG : ∀ W, (callFunc G caps).run Tryz.prog W = .ok (.enter G caps) W) (hdo : Does G caps w s F) (h0 : s.armed = 0)
    (hco : co = none ∨ co = some 6 ∨ co = some 7 ∨ co = some 8 ∨ co = some 9) :
    Calls Tryz.prog 90 #[.pointer (some ⟨s.p, 0, none⟩), .pointer (cntPtr s.p co), .func (.func G) #[] caps] w fun e w' =>
      e = .returned (.int .i64 (actA s.abs co F).1) ∧ ∃ s2, Step w w' s s2 ∧ s2.abs = (actA s.abs co F).2 := by
  have c4 := hs.c_armed
  have hp := hs.plt
  have hp1 : s.p < w.heap.size + 1 := by omega
  have hp2 : s.p < w.heap.size + 1 + 1 := by omega
  rw [h0] at c4
  have HS := hid hs; have HDO := hid hdo; have H0 := hid h0
  clear hs hdo h0
  generalize hcp : cntPtr s.p co = cp
  have HC := hid hcp; clear hcp
  go_enter_defers Tryz.func90, Tryz.ntmps90
  go_wp2_with fail
  have hu3 : Upd (fun _ => False) w (((w.alloc (.cells #[.pointer (some ⟨s.p, 0, none⟩)] 28)).alloc (.cells #[.pointer cp] 156)).alloc (.cells #[.bool true] 4)) := (((Upd.refl _ _).alloc _).alloc _).alloc _
  have hin := HS.out.upd hu3 (fun _ _ h => h)
  have hnb : ∀ k, w.heap.size ≤ k → k ∉ s.blocks := fun k hk hm => by have := HS.out.lt k hm; omega
  have HIN := hid hin; have HU3 := hid hu3; have HNB := hid hnb
  clear hin hu3 hnb
  refine (HDO.out _ s HIN.out (HU3.out.mono (fun _ _ h => h.elim)) rfl rfl rfl rfl rfl).mono ?_
  rintro e W' ⟨rfl, s2, hst, e1, e2, e3, e4, e5⟩
  have hx := (hst.other (i := 0) (HNB.out (w.heap.size + 1 + 1) (by omega)) (by simp)).trans (by simp [go_sem] : _ = some (.bool true))
  have hd := (hst.other (i := 0) (HNB.out w.heap.size (by omega)) (by simp; omega)).trans (by simp [go_sem] : _ = some (.pointer (some ⟨s.p, 0, none⟩)))
  have hc := (hst.other (i := 0) (HNB.out (w.heap.size + 1) (by omega)) (by simp)).trans (by simp [go_sem] : _ = some (.pointer cp))
  have H1 := hid hst; have H2 := hid e1; have H3 := hid e2; have H4 := hid e3; have H5 := hid e4; have H6 := hid e5
  clear hst e1 e2 e3 e4 e5
  go_wp2
  refine leaves_cons (f := 145) (args := #[.pointer (some ⟨w.heap.size + 1 + 1, 0, none⟩), .pointer (some ⟨w.heap.size, 0, none⟩), .pointer (some ⟨w.heap.size + 1, 0, none⟩)]) (by simp) (by simp [go_sem]) ?_
  refine (act1_yes H1.out.ins .returning hco hx (by rw [hd, H1.out.p]) (by rw [hc, H1.out.p, HC.out]) (by rw [H1.out.p]; omega)).mono ?_
  rintro e u' w'' ⟨rfl, rfl, hst3⟩
  refine ⟨_, results_tmp rfl _ _ _, ?_⟩
  refine ⟨by rw [show (actA s.abs co F).1 = 0 from by simp [actA, DS.abs, H0.out]]; rfl, s2.bumped co, ((Step.of_upd HS.out HU3.out).trans H1.out).trans hst3, ?_⟩
  simp [actA, DS.abs, DS.bumped, H0.out, H2.out, H3.out, H4.out, H5.out, H6.out]

set_option maxRecDepth 100000 in
set_option maxHeartbeats 1000000 in
theorem act_later {w : World} {s : DS} (hs : s.In w) {G : Nat} {caps : Array Value} {co : Option Nat} {F : List FileA} (hG : ∀ W, (callFunc G caps).run Tryz.prog W = .ok (.enter G caps) W) (hdo : Does G caps w s F) (h0 : 1 < s.armed)
    (hco : co = none ∨ co = some 6 ∨ co = some 7 ∨ co = some 8 ∨ co = some 9) :
    Calls Tryz.prog 90 #[.pointer (some ⟨s.p, 0, none⟩), .pointer (cntPtr s.p co), .func (.func G) #[] caps] w fun e w' =>
      e = .returned (.int .i64 (actA s.abs co F).1) ∧ ∃ s2, Step w w' s s2 ∧ s2.abs = (actA s.abs co F).2 := by
  have c4 := hs.c_armed
  have f4 := hs.free 4
  have hp := hs.plt
  have hp1 : s.p < w.heap.size + 1 := by omega
  have hp2 : s.p < w.heap.size + 1 + 1 := by omega
  have ha := hs.armed
  obtain ⟨ha1, ha2⟩ := ha
  have hne : ¬ (s.armed = 0) := by omega
  have hne1 : ¬ (s.armed = 1) := by omega
  have HS := hid hs; have HDO := hid hdo
  have N0 := hid hne; have N1 := hid hne1
  clear hs hdo hne hne1
  generalize hcp : cntPtr s.p co = cp
  have HC := hid hcp; clear hcp
  generalize har : s.armed = ar at *
  have HA := hid har; clear har
  have hb1 : (ar - 1 == 0) = false := by simp; omega
  go_enter_defers Tryz.func90, Tryz.ntmps90
  go_wp2_with fail
  have hst1 : Step w (w.setCell ⟨s.p, 4, none⟩ (.int .i64 (ar - 1))) s { s with armed := ar - 1 } :=
    HS.out.top_turned (Upd.cell_only _ _ _ _) rfl rfl rfl rfl (heap_setCell_at _ _ _ _ _ _ HS.out.top) ⟨by show 0 ≤ ar - 1; omega, by show ar - 1 ≤ _; omega⟩
  have hu3 : Upd (fun _ => False) (w.setCell ⟨s.p, 4, none⟩ (.int .i64 (ar - 1))) ((((w.setCell ⟨s.p, 4, none⟩ (.int .i64 (ar - 1))).alloc (.cells #[.pointer (some ⟨s.p, 0, none⟩)] 28)).alloc (.cells #[.pointer cp] 156)).alloc (.cells #[.bool true] 4)) := (((Upd.refl _ _).alloc _).alloc _).alloc _
  have hin := hst1.ins.upd hu3 (fun _ _ h => h)
  have hnb : ∀ k, w.heap.size ≤ k → k ∉ s.blocks := fun k hk hm => by have := HS.out.lt k hm; omega
  have HIN := hid hin; have HU3 := hid hu3; have HNB := hid hnb; have HS1 := hid hst1
  clear hin hu3 hnb hst1
  refine (HDO.out _ { s with armed := ar - 1 } HIN.out ((Upd.cell_only _ _ _ _).trans HU3.out (fun _ _ h => h.elim)) rfl rfl rfl rfl rfl).mono ?_
  rintro e W' ⟨rfl, s2, hst, e1, e2, e3, e4, e5⟩
  have hx := (hst.other (i := 0) (HNB.out (w.heap.size + 1 + 1) (by omega)) (by simp)).trans (by simp [go_sem] : _ = some (.bool true))
  have hd := (hst.other (i := 0) (HNB.out w.heap.size (by omega)) (by simp; omega)).trans (by simp [go_sem] : _ = some (.pointer (some ⟨s.p, 0, none⟩)))
  have hc := (hst.other (i := 0) (HNB.out (w.heap.size + 1) (by omega)) (by simp)).trans (by simp [go_sem] : _ = some (.pointer cp))
  have hp' := hst.p
  have H1 := hid hst; have H2 := hid e1; have H3 := hid e2; have H4 := hid e3; have H5 := hid e4; have H6 := hid e5; have H7 := hid hp'
  clear hst e1 e2 e3 e4 e5 hp'
  go_wp2
  refine leaves_cons (f := 145) (args := #[.pointer (some ⟨w.heap.size + 1 + 1, 0, none⟩), .pointer (some ⟨w.heap.size, 0, none⟩), .pointer (some ⟨w.heap.size + 1, 0, none⟩)]) (by simp) (by simp [go_sem]) ?_
  refine (act1_yes H1.out.ins .returning hco hx (by rw [hd, H7.out]) (by rw [hc, H7.out, HC.out]) (by rw [H7.out]; show w.heap.size + 1 ≠ s.p; omega)).mono ?_
  rintro e u' w'' ⟨rfl, rfl, hst3⟩
  refine ⟨_, results_tmp rfl _ _ _, ?_⟩
  refine ⟨by rw [show (actA s.abs co F).1 = 0 from by simp [actA, DS.abs, HA.out, N0.out, N1.out]]; rfl, s2.bumped co, ((HS1.out.trans (Step.of_upd HS1.out.ins HU3.out)).trans H1.out).trans hst3, ?_⟩
  simp [actA, DS.abs, DS.bumped, HA.out, N0.out, N1.out, H2.out, H3.out, H4.out, H5.out, H6.out]

set_option maxRecDepth 100000 in
set_option maxHeartbeats 1000000 in
/-- The disk goes down at this act, which is an Append. -/
theorem act_last {w : World} {s : DS} (hs : s.In w) {G : Nat} {caps : Array Value} {F : List FileA} (hG : ∀ W, (callFunc G caps).run Tryz.prog W = .ok (.enter G caps) W) (hdo : Does G caps w s F) (h0 : s.armed = 1) :
    Calls Tryz.prog 90 #[.pointer (some ⟨s.p, 0, none⟩), .pointer (some ⟨s.p, 6, none⟩), .func (.func G) #[] caps] w fun e w' =>
      e = .returned (.int .i64 (actA s.abs (some 6) F).1) ∧ ∃ s2, Step w w' s s2 ∧ s2.abs = (actA s.abs (some 6) F).2 := by
  have c4 := hs.c_armed
  have c3 := hs.c_down
  have f4 := hs.free 4
  have f3 := hs.free 3
  have hp := hs.plt
  have hp1 : s.p < w.heap.size + 1 := by omega
  have hp2 : s.p < w.heap.size + 1 + 1 := by omega
  rw [h0] at c4
  have HS := hid hs; have HDO := hid hdo; have H0 := hid h0
  clear hs hdo h0
  go_enter_defers Tryz.func90, Tryz.ntmps90
  go_wp2_with fail
  have heq := fun W => Tryz.eqlInt s.p 6 6 W
  go_region
  go_wp2
  have hst1 : Step w ((w.setCell ⟨s.p, 4, none⟩ (.int .i64 0)).setCell ⟨s.p, 3, none⟩ (.bool true)) s { s with armed := 0, down := true } := by
    refine HS.out.top_turned ((Upd.cell_only _ _ _ _).trans (Upd.cell_only _ _ _ _) (fun k _ h => h)) rfl rfl rfl rfl ?_ ⟨by simp, by simp⟩
    rw [heap_setCell_at _ _ _ _ _ _ (heap_setCell_at _ _ _ _ _ _ HS.out.top)]
    rfl
  have hu3 : Upd (fun _ => False) ((w.setCell ⟨s.p, 4, none⟩ (.int .i64 0)).setCell ⟨s.p, 3, none⟩ (.bool true)) (((((w.setCell ⟨s.p, 4, none⟩ (.int .i64 0)).setCell ⟨s.p, 3, none⟩ (.bool true)).alloc (.cells #[.pointer (some ⟨s.p, 0, none⟩)] 28)).alloc (.cells #[.pointer (some ⟨s.p, 6, none⟩)] 156)).alloc (.cells #[.bool true] 4)).drew := ((((Upd.refl _ _).alloc _).alloc _).alloc _).drew
  have hin := hst1.ins.upd hu3 (fun _ _ h => h)
  have hnb : ∀ k, w.heap.size ≤ k → k ∉ s.blocks := fun k hk hm => by have := HS.out.lt k hm; omega
  have HIN := hid hin; have HU3 := hid hu3; have HNB := hid hnb; have HS1 := hid hst1
  clear hin hu3 hnb hst1
  refine (HDO.out _ { s with armed := 0, down := true } HIN.out (((Upd.cell_only _ _ _ _).trans (Upd.cell_only _ _ _ _) (fun k _ h => h)).trans HU3.out (fun _ _ h => h.elim)) rfl rfl rfl rfl rfl).mono ?_
  rintro e W' ⟨rfl, s2, hst, e1, e2, e3, e4, e5⟩
  have hx := (hst.other (i := 0) (HNB.out (w.heap.size + 1 + 1) (by omega)) (by simp)).trans (by simp [go_sem] : _ = some (.bool true))
  have hd := (hst.other (i := 0) (HNB.out w.heap.size (by omega)) (by simp; omega)).trans (by simp [go_sem] : _ = some (.pointer (some ⟨s.p, 0, none⟩)))
  have hc := (hst.other (i := 0) (HNB.out (w.heap.size + 1) (by omega)) (by simp)).trans (by simp [go_sem] : _ = some (.pointer (some ⟨s.p, 6, none⟩)))
  have hp' := hst.p
  have H1 := hid hst; have H2 := hid e1; have H3 := hid e2; have H4 := hid e3; have H5 := hid e4; have H6 := hid e5; have H7 := hid hp'
  clear hst e1 e2 e3 e4 e5 hp'
  go_wp2
  refine leaves_cons (f := 145) (args := #[.pointer (some ⟨w.heap.size + 1 + 1, 0, none⟩), .pointer (some ⟨w.heap.size, 0, none⟩), .pointer (some ⟨w.heap.size + 1, 0, none⟩)]) (by simp) (by simp [go_sem]) ?_
  refine (act1_yes (co := some 6) H1.out.ins .returning (by simp) hx (by rw [hd, H7.out]) (by rw [hc, H7.out]; rfl) (by rw [H7.out]; show w.heap.size + 1 ≠ s.p; omega)).mono ?_
  rintro e u' w'' ⟨rfl, rfl, hst3⟩
  refine ⟨_, results_tmp rfl _ _ _, ?_⟩
  refine ⟨by rw [show (actA s.abs (some 6) F).1 = 3 from by simp [actA, DS.abs, H0.out]]; rfl, s2.bumped (some 6), ((HS1.out.trans (Step.of_upd HS1.out.ins HU3.out)).trans H1.out).trans hst3, ?_⟩
  simp [actA, DS.abs, DS.bumped, H0.out, H2.out, H3.out, H4.out, H5.out, H6.out]

set_option maxRecDepth 100000 in
set_option maxHeartbeats 1000000 in
/-- .. which is none. -/
theorem act_stop {w : World} {s : DS} (hs : s.In w) {G : Nat} {caps : Array Value} {co : Option Nat} {F : List FileA} (h0 : s.armed = 1) (hco : co = none ∨ co = some 7 ∨ co = some 8 ∨ co = some 9) :
    Calls Tryz.prog 90 #[.pointer (some ⟨s.p, 0, none⟩), .pointer (cntPtr s.p co), .func (.func G) #[] caps] w fun e w' =>
      e = .returned (.int .i64 (actA s.abs co F).1) ∧ ∃ s2, Step w w' s s2 ∧ s2.abs = (actA s.abs co F).2 := by
  have heq : ∀ W, (binOp .eql 156 (.pointer (cntPtr s.p co)) (.pointer (some ⟨s.p, 6, none⟩))).run Tryz.prog W = .ok (.bool false) W := by
    intro W
    rcases hco with rfl | rfl | rfl | rfl
    · exact run_eql_ptr_none Tryz.underlying156 _ _ _
    · exact (Tryz.eqlInt s.p 7 6 W).trans rfl
    · exact (Tryz.eqlInt s.p 8 6 W).trans rfl
    · exact (Tryz.eqlInt s.p 9 6 W).trans rfl
  have hn6 : ¬ co = some 6 := by rcases hco with rfl | rfl | rfl | rfl <;> simp
  have HN6 := hid hn6
  clear hco hn6
  have c4 := hs.c_armed
  have c3 := hs.c_down
  have f4 := hs.free 4
  have f3 := hs.free 3
  have hp := hs.plt
  have hp1 : s.p < w.heap.size + 1 := by omega
  have hp2 : s.p < w.heap.size + 1 + 1 := by omega
  rw [h0] at c4
  have HS := hid hs; have H0 := hid h0
  clear hs h0
  generalize cntPtr s.p co = cp at *
  go_enter_defers Tryz.func90, Tryz.ntmps90
  go_wp2_with fail
  go_region
  have hst1 : Step w ((w.setCell ⟨s.p, 4, none⟩ (.int .i64 0)).setCell ⟨s.p, 3, none⟩ (.bool true)) s { s with armed := 0, down := true } := by
    refine HS.out.top_turned ((Upd.cell_only _ _ _ _).trans (Upd.cell_only _ _ _ _) (fun k _ h => h)) rfl rfl rfl rfl ?_ ⟨by simp, by simp⟩
    rw [heap_setCell_at _ _ _ _ _ _ (heap_setCell_at _ _ _ _ _ _ HS.out.top)]
    rfl
  have hu3 : Upd (fun _ => False) ((w.setCell ⟨s.p, 4, none⟩ (.int .i64 0)).setCell ⟨s.p, 3, none⟩ (.bool true)) (((((w.setCell ⟨s.p, 4, none⟩ (.int .i64 0)).setCell ⟨s.p, 3, none⟩ (.bool true)).alloc (.cells #[.pointer (some ⟨s.p, 0, none⟩)] 28)).alloc (.cells #[.pointer cp] 156)).alloc (.cells #[.bool false] 4)).drew := ((((Upd.refl _ _).alloc _).alloc _).alloc _).drew
  have HS1 := hid hst1; have HU3 := hid hu3
  clear hst1 hu3
  go_wp2
  refine leaves_cons (f := 145) (args := #[.pointer (some ⟨w.heap.size + 1 + 1, 0, none⟩), .pointer (some ⟨w.heap.size, 0, none⟩), .pointer (some ⟨w.heap.size + 1, 0, none⟩)]) (by simp) (by simp [go_sem]) ?_
  refine (act1_no .returning (by simp [go_sem])).mono ?_
  rintro e u' w'' ⟨rfl, rfl, rfl⟩
  refine ⟨_, results_tmp rfl _ _ _, ?_⟩
  refine ⟨by rw [show (actA s.abs co F).1 = 3 from by simp [actA, DS.abs, H0.out, HN6.out]]; rfl, { s with armed := 0, down := true }, HS1.out.trans (Step.of_upd HS1.out.ins HU3.out), ?_⟩
  simp [actA, DS.abs, H0.out, HN6.out]

/-- Every act. -/
theorem act_any {w : World} {s : DS} (hs : s.In w) {G : Nat} {caps : Array Value} {co : Option Nat} {F : List FileA} (hG : ∀ W, (callFunc G caps).run Tryz.prog W = .ok (.enter G caps) W) (hdo : Does G caps w s F)
    (hco : co = none ∨ co = some 6 ∨ co = some 7 ∨ co = some 8 ∨ co = some 9) :
    Calls Tryz.prog 90 #[.pointer (some ⟨s.p, 0, none⟩), .pointer (cntPtr s.p co), .func (.func G) #[] caps] w fun e w' =>
      e = .returned (.int .i64 (actA s.abs co F).1) ∧ ∃ s2, Step w w' s s2 ∧ s2.abs = (actA s.abs co F).2 := by
  by_cases h0 : s.armed = 0
  · exact act_plain hs hG hdo h0 hco
  by_cases h1 : s.armed = 1
  · rcases hco with rfl | rfl | rfl | rfl | rfl
    · exact act_stop hs h1 (by simp)
    · exact act_last hs hG hdo h1
    · exact act_stop hs h1 (by simp)
    · exact act_stop hs h1 (by simp)
    · exact act_stop hs h1 (by simp)
  · exact act_later hs hG hdo (by have := hs.armed; omega) hco

end Go.Proofs.YtgaidmohdhaonaaGreatDoor
