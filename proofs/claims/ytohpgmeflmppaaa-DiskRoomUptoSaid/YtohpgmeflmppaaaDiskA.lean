/-
  Package disk, walked: what asks and does not change.
-/
import Derived.Test.YtohpgmeflmppaaaDisk
import Derived.Handy
import Derived.Outline
namespace Go.Proofs.Ytohpgmeflmppaaa
set_option linter.unusedVariables false
set_option linter.unusedSimpArgs false
set_option linter.unnecessarySimpa false
set_option linter.unusedSectionVars false
open Go Go.RowKit

theorem zeroFile (w : World) : (zeroValue 93).run Try.prog w = .ok (.pointer none) w := by kernel_rfl

theorem run_lookup_file {w : World} {s : DS} (h : s.In w) (n : ByteArray) : (Instr.lookup 89 (.map (some s.m)) (.string n) false).run Try.prog w = .ok (s.ptrAt n) w := by
  rw [← ptrAt_look]
  exact run_lookup_str Try.underlying89 Try.underlying9 zeroFile h.map n

set_option maxHeartbeats 400000 in
theorem look_any {w : World} {s : DS} (hs : s.In w) (n : ByteArray) (t : Bool) :
    Calls Try.prog 47 #[.pointer (some ⟨s.p, 0, none⟩), .string n, .bool t] w fun e w' => e = .returned (.int .i64 (lookRes s.down (nameOk n.data.toList) t (s.fileAt n).isSome)) ∧ w' = w := by
  have cd := hs.c_down
  have cm := hs.c_map
  have hlk := run_lookup_file hs n
  unfold DS.ptrAt at hlk
  have HS := hid hs; clear hs
  generalize s.down = dn at cd ⊢
  cases dn
  · generalize hf : s.fileAt n = fo at hlk ⊢
    cases hok : nameOk n.data.toList
    · go_enter Try.func47, Try.ntmps47
      go_wp2_with (go_at_call 48; refine (named_any _ _).mono ?_; rintro e w' ⟨rfl, rfl⟩)
      go_ret
      exact ⟨rfl, rfl⟩
    · cases t
      · go_enter Try.func47, Try.ntmps47
        go_wp2_with (go_at_call 48; refine (named_any _ _).mono ?_; rintro e w' ⟨rfl, rfl⟩)
        go_ret
        exact ⟨rfl, rfl⟩
      · cases fo
        all_goals
          simp only [] at hlk
          go_enter Try.func47, Try.ntmps47
          go_wp2_with (go_at_call 48; refine (named_any _ _).mono ?_; rintro e w' ⟨rfl, rfl⟩)
          go_ret
          exact ⟨rfl, rfl⟩
  · go_enter Try.func47, Try.ntmps47
    go_wp2
    go_ret
    exact ⟨rfl, rfl⟩

set_option maxHeartbeats 400000 in
theorem free_any {w : World} {s : DS} (hs : s.In w) :
    Calls Try.prog 25 #[.pointer (some ⟨s.p, 0, none⟩)] w fun e w' => e = .returned (.int .i64 ((s.cap - s.used : Nat) : Int)) ∧ ∃ n, w' = w.drewN n := by
  have c0 := hs.c_cap
  have c1 := hs.c_used
  have h1 := hs.room
  have h2 := hs.cap
  clear hs
  generalize s.used = u at *
  generalize s.cap = c at *
  go_enter Try.func25, Try.ntmps25
  go_wp2
  go_quiet (fail)
  go_wp2
  go_ret
  exact ⟨congrArg (fun x => Ending.returned (Value.int .i64 x)) (by omega), _, rfl⟩

theorem capacity_any {w : World} {s : DS} (hs : s.In w) :
    Calls Try.prog 24 #[.pointer (some ⟨s.p, 0, none⟩)] w fun e w' => e = .returned (.int .i64 s.cap) ∧ w' = w := by
  have c0 := hs.c_cap
  clear hs
  go_enter Try.func24, Try.ntmps24
  go_wp2
  go_ret
  exact ⟨rfl, rfl⟩

theorem down_any {w : World} {s : DS} (hs : s.In w) :
    Calls Try.prog 12 #[.pointer (some ⟨s.p, 0, none⟩)] w fun e w' => e = .returned (.bool s.down) ∧ w' = w := by
  have c0 := hs.c_down
  clear hs
  go_enter Try.func12, Try.ntmps12
  go_wp2
  go_ret
  exact ⟨rfl, rfl⟩

def sizeRes (s : DS) (n : ByteArray) : Int := if lookRes s.down (nameOk n.data.toList) true (s.fileAt n).isSome = 0 then (((s.fileAt n).map (·.data.length)).getD 0 : Nat) else 0

set_option maxHeartbeats 400000 in
theorem size_any {w : World} {s : DS} (hs : s.In w) (n : ByteArray) :
    Calls Try.prog 30 #[.pointer (some ⟨s.p, 0, none⟩), .string n] w fun e w' =>
      e = .returned (.tuple #[.int .i64 (sizeRes s n), .int .i64 (lookRes s.down (nameOk n.data.toList) true (s.fileAt n).isSome)]) ∧ w' = w := by
  have HL := hid (look_any hs n true)
  have cm := hs.c_map
  have hlk := run_lookup_file hs n
  unfold DS.ptrAt at hlk
  unfold sizeRes
  generalize hd : s.down = dn at HL ⊢
  generalize hf : s.fileAt n = fo at HL hlk ⊢
  by_cases hr : lookRes dn (nameOk n.data.toList) true fo.isSome = 0
  · obtain ⟨rfl, hok, hth⟩ := lookRes_zero.1 hr
    cases fo with
    | none => simp at hth
    | some r =>
      simp only [] at hlk
      obtain ⟨hrm, _⟩ := fileAt_mem hf
      have c1 := (hs.files r hrm).c_dv
      obtain ⟨ao, cap, hdv, _, _, _, _⟩ := (hs.files r hrm).data.shape
      rw [hdv] at c1
      rw [hr] at HL ⊢
      clear hf hd hs hok hth hdv hr
      simp only [if_true, Option.map_some, Option.getD_some]
      go_enter Try.func30, Try.ntmps30
      go_wp2_with (go_at_call 47; refine HL.out.mono ?_; rintro e w' ⟨rfl, rfl⟩)
      go_ret2
      exact ⟨rfl, rfl⟩
  · rw [if_neg hr]
    generalize lookRes dn (nameOk n.data.toList) true fo.isSome = e0 at *
    have hb : (e0 != 0) = true := by simpa using hr
    clear hr hf hd hlk cm hs
    go_enter Try.func30, Try.ntmps30
    go_wp2_with (go_at_call 47; refine HL.out.mono ?_; rintro e w' ⟨rfl, rfl⟩)
    go_ret2
    exact ⟨rfl, rfl⟩

theorem ownBlock_owns {w : World} {base : Nat} {e : TypeId} {sz n : Nat} {v : Value} {xs : List Value} (h : w.ownsRow base e sz v n xs) : ∀ b, v.ownBlock = some b → base ≤ b := fun b hb => (h.lt b hb).1

def rangeBad (a n : Int) (len : Nat) : Bool := decide (a < 0 ∨ n < 0 ∨ (len : Int) < a ∨ (len : Int) - a < n)

/-- The disk of which one Read more was answered. -/
def DS.bumpRead (s : DS) : DS := { s with cnt := { s.cnt with reads := wrap64 (s.cnt.reads + 1) } }

theorem step_bumpRead {w : World} {s : DS} (hs : s.In w) : Step w (w.setCell ⟨s.p, 10, none⟩ (.int .i64 (wrap64 (s.cnt.reads + 1)))) s s.bumpRead :=
  hs.top_turned (Upd.cell_only _ _ _ _) rfl rfl rfl rfl (heap_setCell_at _ _ _ _ _ _ hs.top) hs.armed

set_option maxHeartbeats 800000 in
theorem read_bad {w : World} {s : DS} (hs : s.In w) (n : ByteArray) (at' k : Int)
    (hbad : lookRes s.down (nameOk n.data.toList) true (s.fileAt n).isSome ≠ 0) :
    Calls Try.prog 18 #[.pointer (some ⟨s.p, 0, none⟩), .string n, .int .i64 at', .int .i64 k] w fun e w' =>
      e = .returned (.tuple #[.slice none 0 0, .int .i64 (lookRes s.down (nameOk n.data.toList) true (s.fileAt n).isSome)]) ∧ w' = w := by
  have HL := hid (look_any hs n true)
  clear hs
  generalize lookRes s.down (nameOk n.data.toList) true (s.fileAt n).isSome = e0 at *
  have hb : (e0 != 0) = true := by simpa using hbad
  clear hbad
  go_enter Try.func18, Try.ntmps18
  go_wp2_with (go_at_call 47; refine HL.out.mono ?_; rintro e w' ⟨rfl, rfl⟩)
  go_ret2
  exact ⟨rfl, rfl⟩

set_option maxHeartbeats 800000 in
theorem read_range {w : World} {s : DS} (hs : s.In w) (n : ByteArray) (at' k : Int) {r : FRec} (hf : s.fileAt n = some r)
    (hok : lookRes s.down (nameOk n.data.toList) true (s.fileAt n).isSome = 0) (hbad : rangeBad at' k r.data.length = true) :
    Calls Try.prog 18 #[.pointer (some ⟨s.p, 0, none⟩), .string n, .int .i64 at', .int .i64 k] w fun e w' =>
      e = .returned (.tuple #[.slice none 0 0, .int .i64 43]) ∧ w' = w := by
  have HL := hid (look_any hs n true)
  have cm := hs.c_map
  have hlk := run_lookup_file hs n
  unfold DS.ptrAt at hlk
  rw [hok] at HL
  rw [hf] at hlk
  obtain ⟨hrm, _⟩ := fileAt_mem hf
  have c1 := (hs.files r hrm).c_dv
  obtain ⟨ao, cap, hdv, hcap, hm, -, -⟩ := (hs.files r hrm).data.shape
  rw [hdv] at c1
  simp only [] at hlk
  have hm' : cap ≤ 9223372036854775807 := by simpa [maxLen] using hm
  clear hm
  have hbad' : at' < 0 ∨ k < 0 ∨ (r.data.length : Int) < at' ∨ (r.data.length : Int) - at' < k := by simpa [rangeBad] using hbad
  clear hf hok hs hrm hdv hbad
  generalize r.data.length = len at *
  by_cases g1 : at' < 0
  · go_enter Try.func18, Try.ntmps18
    go_wp2_with (go_at_call 47; refine HL.out.mono ?_; rintro e w' ⟨rfl, rfl⟩)
    go_ret2
    exact ⟨rfl, rfl⟩
  by_cases g2 : k < 0
  · go_enter Try.func18, Try.ntmps18
    go_wp2_with (go_at_call 47; refine HL.out.mono ?_; rintro e w' ⟨rfl, rfl⟩)
    go_ret2
    exact ⟨rfl, rfl⟩
  by_cases g3 : (len : Int) < at'
  · go_enter Try.func18, Try.ntmps18
    go_wp2_with (go_at_call 47; refine HL.out.mono ?_; rintro e w' ⟨rfl, rfl⟩)
    go_ret2
    exact ⟨rfl, rfl⟩
  have g4 : (len : Int) - at' < k := by omega
  clear hbad'
  go_enter Try.func18, Try.ntmps18
  go_wp2_with (go_at_call 47; refine HL.out.mono ?_; rintro e w' ⟨rfl, rfl⟩)
  go_ret2
  exact ⟨rfl, rfl⟩

set_option maxRecDepth 100000 in
set_option maxHeartbeats 800000 in
theorem read_yes {w : World} {s : DS} (hs : s.In w) (n : ByteArray) (a k : Nat) {r : FRec} (hf : s.fileAt n = some r)
    (hok : lookRes s.down (nameOk n.data.toList) true (s.fileAt n).isSome = 0) (hin : a + k ≤ r.data.length) :
    Calls Try.prog 18 #[.pointer (some ⟨s.p, 0, none⟩), .string n, .int .i64 a, .int .i64 k] w fun e w' =>
      ∃ v, e = .returned (.tuple #[v, .int .i64 0]) ∧ DataIs w' v ((r.data.drop a).take k) ∧ (∀ b, v.ownBlock = some b → w.heap.size ≤ b) ∧ Step w w' s s.bumpRead := by
  have HL := hid (look_any hs n true)
  have cm := hs.c_map
  have c5 : w.cell? ⟨s.p, 5 + 5, none⟩ = some (.int .i64 s.cnt.reads) := hs.cell 10
  have f5 := hs.free (5 + 5)
  have hlk := run_lookup_file hs n
  unfold DS.ptrAt at hlk
  rw [hok] at HL
  rw [hf] at hlk
  obtain ⟨hrm, _⟩ := fileAt_mem hf
  have c1 := (hs.files r hrm).c_dv
  obtain ⟨ao, cap, hdv, hcap, hm, hnone, hsome⟩ := (hs.files r hrm).data.shape
  rw [hdv] at c1
  simp only [] at hlk
  have hm' : cap ≤ 9223372036854775807 := by simpa [maxLen] using hm
  clear hm
  have hne : r.blk ≠ s.p := hs.blk_ne_p hrm
  have hdl := hs.data_le hrm
  have HS := hid hs
  have HK := hid (show s.bumpRead = s.bumpRead from rfl)
  cases ao with
  | none =>
    obtain ⟨hn0, rfl⟩ := hnone rfl
    rw [hn0] at hin c1
    obtain ⟨rfl, rfl⟩ : a = 0 ∧ k = 0 := by simp at hin; omega
    clear hf hok hs hrm hdv hsome hnone
    go_enter Try.func18, Try.ntmps18
    go_wp2_with (go_at_call 47; refine HL.out.mono ?_; rintro e w' ⟨rfl, rfl⟩)
    refine (Try.bytes_Clone_nil _ _ _).mono ?_
    rintro e w1 ⟨rfl, rfl⟩
    go_wp2
    go_ret2
    exact ⟨_, rfl, .inl ⟨rfl, by simp⟩, by simp [Value.ownBlock], step_bumpRead HS.out⟩
  | some ad =>
    obtain ⟨h1, h2, h3, h4⟩ := hsome ad rfl
    obtain ⟨g, off, spot⟩ := ad
    simp only at h1 h2
    subst h1 h2
    have HD := hid h4
    have HG := hid (show g ≠ s.p from hs.data_ne_p hrm h3)
    clear hf hok hs hrm hdv hsome hnone h4 h3
    go_enter Try.func18, Try.ntmps18
    go_wp2_with (go_at_call 47; refine HL.out.mono ?_; rintro e w' ⟨rfl, rfl⟩)
    · obtain ⟨rfl, rfl⟩ : cap = a ∧ k = 0 := by omega
      refine (Try.bytes_Clone_at _ 0 _ [] _ rfl (by omega) (by intro i hi; omega)).mono ?_
      rintro e w1 ⟨v, rfl, hv, hne', hb⟩
      go_wp2
      go_ret2
      refine ⟨v, rfl, ?_, ?_, (step_bumpRead HS.out).trans (Step.of_upd (step_bumpRead HS.out).ins (.of_below hb))⟩
      · simp only [List.take_zero]; exact DataIs.of_owns (xs := []) hv
      · intro b hb'; have := ownBlock_owns hv b hb'; simpa using this
    · have hlen : ((r.data.drop a).take k).length = k := by simp; omega
      refine (Try.bytes_Clone_at _ k _ (((r.data.drop a).take k).map (fun b => (b.toNat : Int))) _ (by simp; omega) (by omega) ?_).mono ?_
      · intro i hi
        have hi' : a + i < r.data.length := by omega
        have hg : g ≠ s.p := HG.out
        have hcell := HD.out (a + i) hi'
        rw [show (Addr.add ⟨g, a, none⟩ i : Addr) = ⟨g, a + i, none⟩ from by simp [Addr.add]]
        rw [cell_setCell_ne _ hg, hcell]
        simp only [byteV, Option.some.injEq, Value.int.injEq, true_and]
        rw [List.getD_eq_getElem?_getD, List.getElem?_map, List.getElem?_take, if_pos hi, List.getElem?_drop, List.getElem?_eq_getElem hi']
        rfl
      rintro e w1 ⟨v, rfl, hv, hne', hb⟩
      go_wp2
      go_ret2
      refine ⟨v, rfl, ?_, ?_, (step_bumpRead HS.out).trans (Step.of_upd (step_bumpRead HS.out).ins (.of_below hb))⟩
      · rw [List.map_map] at hv; exact DataIs.of_owns hv
      · intro b hb'; have := ownBlock_owns hv b hb'; simpa using this

end Go.Proofs.Ytohpgmeflmppaaa
