/-
  For DiskNames: bytes of a string; names in their order; what a bad name is answered with; Flip of a bad name.
-/
import Derived.Test.YtohpgmeflmppaaaLawG
import Derived.Sort.Walk0
namespace Go.Proofs.Ytohpgmeflmppaaa
set_option linter.unusedVariables false
set_option linter.unusedSimpArgs false
set_option linter.unnecessarySimpa false
set_option linter.unusedSectionVars false
open Go Go.RowKit

/-- '[]byte(s)'. -/
theorem str_bytes (w : World) (s : ByteArray) : ∃ cap W', (convert 9 30 (.string s)).run Try.prog w = .ok (.slice (some ⟨w.heap.size, 0, none⟩) s.size cap) W' ∧
    BytesAt W' (.slice (some ⟨w.heap.size, 0, none⟩) s.size cap) s.data.toList ∧ s.size ≤ cap ∧ Upd (fun _ => False) w W' ∧ W'.heap.size = w.heap.size + 1 := by
  refine ⟨grownCap w s.size 0 5, _, run_bytes_of_string w 9 30 5 s Try.underlying9 Try.underlying30 Try.underlying5, ?_, grownCap_ge _ _ _ _, ((Upd.refl _ _).drew).alloc _, by simp⟩
  have hsz : s.data.toList.length = s.size := by simp
  refine ⟨some ⟨w.heap.size, 0, none⟩, grownCap w s.size 0 5, by rw [hsz], (fun h => by cases h), fun a ha j u hu => ?_⟩
  cases ha
  rw [List.getElem?_map] at hu
  by_cases hj : j < s.data.size
  · rw [List.getElem?_eq_getElem (by simpa using hj)] at hu
    simp only [Option.map_some, Option.some.injEq] at hu
    subst hu
    have h1 := bytesRow_at s (grownCap w s.size 0 5) j hj
    have h2 : (w.drew.alloc (.cells (bytesRow s (grownCap w s.size 0 5)) 5 ((bytesRow s (grownCap w s.size 0 5)).size, (bytesRow s (grownCap w s.size 0 5)).size + 1))).heap[w.heap.size]? = some (.cells (bytesRow s (grownCap w s.size 0 5)) 5 ((bytesRow s (grownCap w s.size 0 5)).size, (bytesRow s (grownCap w s.size 0 5)).size + 1)) := heap_alloc_new w.drew _
    rw [Addr.add_lit, Nat.zero_add, cell_of_row _ _ j _ _ _ h2, h1]
    simp [byteV]
  · rw [List.getElem?_eq_none (by simpa using hj)] at hu
    cases hu

theorem toList_data (s : ByteArray) : s.toList = s.data.toList := by
  rw [ByteArray.toList_eq]

/-- Names stand in their order, each ahead of the next. -/
theorem sorted_step {l : List ByteArray} (hnd : l.Nodup) {i : Nat} (hi : i + 1 < (sortNames l).length) : Op.bytesLess ((sortNames l)[i]).toList ((sortNames l)[i + 1]).toList = true := by
  have hp := List.pairwise_iff_getElem.1 (sortNames_sorted l) i (i + 1) (by omega) hi (by omega)
  have hn := List.pairwise_iff_getElem.1 (sort_nodup hnd) i (i + 1) (by omega) hi (by omega)
  rw [bytesLess_eq, decide_eq_true_eq, toList_data, toList_data]
  simp only [leB, decide_eq_true_eq] at hp
  rcases List.le_iff_lt_or_eq.1 hp with h | h
  · exact h
  · exfalso
    apply hn
    rw [← toBA_data (sortNames l)[i], h, toBA_data]

theorem hasPre_empty (s : ByteArray) : hasPre ByteArray.empty s = true := by
  show Lib.hasPrefix s.data.toList [] = true
  simp [Lib.hasPrefix]

theorem listNames_all (s : DS) : listNames s ByteArray.empty = sortNames s.names := by
  unfold listNames
  exact List.filter_eq_self.2 (fun a _ => hasPre_empty a)

theorem hasPre_begins (p s : ByteArray) : hasPre p s = decide (p.data.toList = s.data.toList.take p.data.toList.length) := by
  unfold hasPre Lib.hasPrefix
  generalize s.data.toList = a
  generalize p.data.toList = b
  rw [Bool.eq_iff_iff]
  simp [List.isPrefixOf_iff_prefix, List.prefix_iff_eq_take]

/-- What is asked of a name that may be none. -/
def wrongTill (s : ByteArray) (k : Nat) : Bool := decide (s.size = 0) || decide (64 < s.size) || (s.data.toList.take k).any (fun c => decide (c ≤ 32) || decide (126 < c))

theorem wrong_bad {s : ByteArray} (h : wrongTill s s.size = true) : nameOk s.data.toList = false := by
  unfold wrongTill at h
  simp only [Bool.or_eq_true, decide_eq_true_eq] at h
  by_cases hok : nameOk s.data.toList = true
  · exfalso
    unfold nameOk at hok
    simp only [Bool.and_eq_true, decide_eq_true_eq, List.all_eq_true] at hok
    obtain ⟨⟨h1, h2⟩, h3⟩ := hok
    have hsz : s.data.toList.length = s.size := by simp
    rcases h with (h | h) | h
    · omega
    · omega
    · obtain ⟨c, hc, hb⟩ := List.any_eq_true.1 h
      have := h3 c (List.mem_of_mem_take hc)
      simp only [Bool.or_eq_true, decide_eq_true_eq, UInt8.le_iff_toNat_le, UInt8.lt_iff_toNat_lt] at hb
      simp only [nameByte, Bool.or_eq_true, Bool.and_eq_true, decide_eq_true_eq, UInt8.le_iff_toNat_le, beq_iff_eq] at this
      have e1 : c = 46 → c.toNat = 46 := fun h => by rw [h]; rfl
      have e2 : c = 45 → c.toNat = 45 := fun h => by rw [h]; rfl
      have e3 : c = 95 → c.toNat = 95 := fun h => by rw [h]; rfl
      have e4 : c = 47 → c.toNat = 47 := fun h => by rw [h]; rfl
      have f1 : (32 : UInt8).toNat = 32 := rfl
      have f2 : (126 : UInt8).toNat = 126 := rfl
      have f3 : (97 : UInt8).toNat = 97 := rfl
      have f4 : (122 : UInt8).toNat = 122 := rfl
      have f5 : (65 : UInt8).toNat = 65 := rfl
      have f6 : (90 : UInt8).toNat = 90 := rfl
      have f7 : (48 : UInt8).toNat = 48 := rfl
      have f8 : (57 : UInt8).toNat = 57 := rfl
      rw [f1, f2] at hb
      rw [f3, f4, f5, f6, f7, f8] at this
      rcases this with (((((h | h) | h) | h) | h) | h) | h
      · omega
      · omega
      · omega
      · have := e1 h; omega
      · have := e2 h; omega
      · have := e3 h; omega
      · have := e4 h; omega
  · simpa using hok

/-- A disk that is up and not armed stays so. -/
theorem createA_calm {s s2 : DS} {n : ByteArray} (hd : s.down = false) (ha : s.armed = 0) (h : s2.abs = (createA s n).2) : s2.down = false ∧ s2.armed = 0 := by
  have h1 := congrArg DiskA.down h
  have h2 := congrArg DiskA.armed h
  have ha' : s.abs.armed = 0 := ha
  unfold createA at h1 h2
  split at h1
  · rename_i hc
    rw [if_pos hc] at h2
    exact ⟨h1.trans hd, h2.trans ha⟩
  · rename_i hc
    rw [if_neg hc] at h2
    split at h1
    · rename_i hc2
      rw [if_pos hc2] at h2
      exact ⟨h1.trans hd, h2.trans ha⟩
    · rename_i hc2
      rw [if_neg hc2] at h2
      split at h1
      · rename_i hc3
        rw [if_pos hc3] at h2
        exact ⟨h1.trans hd, h2.trans ha⟩
      · rename_i hc3
        rw [if_neg hc3] at h2
        unfold actA at h1 h2
        rw [if_pos ha'] at h1 h2
        exact ⟨h1.trans hd, h2.trans ha⟩

theorem bad_res {s : DS} {n : ByteArray} (hd : s.down = false) (hn : nameOk n.data.toList = false) (t : Bool) (b : Bool) : lookRes s.down (nameOk n.data.toList) t b = 40 := by rw [hd, hn]; rfl

theorem createA_bad {s : DS} {n : ByteArray} (hd : s.down = false) (hn : nameOk n.data.toList = false) : createA s n = (40, s.abs) := by
  unfold createA; rw [bad_res hd hn, if_pos (by decide)]
theorem appendA_bad {s : DS} {n : ByteArray} {bs : List UInt8} (hd : s.down = false) (hn : nameOk n.data.toList = false) : appendA s n bs = (40, s.abs) := by
  unfold appendA; rw [bad_res hd hn, if_pos (by decide)]
theorem syncA_bad {s : DS} {n : ByteArray} (hd : s.down = false) (hn : nameOk n.data.toList = false) : syncA s n = (40, s.abs) := by
  unfold syncA; rw [bad_res hd hn, if_pos (by decide)]
theorem deleteA_bad {s : DS} {n : ByteArray} (hd : s.down = false) (hn : nameOk n.data.toList = false) : deleteA s n = (40, s.abs) := by
  unfold deleteA; rw [bad_res hd hn, if_pos (by decide)]
theorem renameA_bad {s : DS} {n t : ByteArray} (hd : s.down = false) (hn : nameOk n.data.toList = false) : renameA s n t = (40, s.abs) := by
  unfold renameA; rw [bad_res hd hn, if_pos (by decide)]
theorem renameA_bad2 {s : DS} {n t : ByteArray} (hd : s.down = false) (hn : nameOk n.data.toList = true) (ht : nameOk t.data.toList = false) : renameA s n t = (40, s.abs) := by
  unfold renameA; rw [hd, hn, ht]; simp [lookRes]

set_option maxRecDepth 100000 in
set_option maxHeartbeats 800000 in
theorem flip_bad {w : World} {s : DS} (hs : s.In w) (n : ByteArray) (b : Int) (hn : nameOk n.data.toList = false) :
    Calls Try.prog 35 #[.pointer (some ⟨s.p, 0, none⟩), .string n, .int .i64 b] w fun e w' => e = .returned (.int .i64 40) ∧ ∃ m, w' = w.drewN m := by
  have cm := hs.c_map
  have hlk := run_lookup_file hs n
  have HN := hid (named_any n)
  rw [hn] at HN
  clear hs
  go_enter Try.func35, Try.ntmps35
  go_wp2_with (go_at_call 48; refine (HN.out _).mono ?_; rintro e w' ⟨rfl, hww⟩; obtain rfl := hww.symm)
  go_ret
  exact ⟨rfl, 0, rfl⟩

end Go.Proofs.Ytohpgmeflmppaaa
