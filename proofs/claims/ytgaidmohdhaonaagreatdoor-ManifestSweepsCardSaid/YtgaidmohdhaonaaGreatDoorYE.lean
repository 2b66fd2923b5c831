/-
  Package manifest, walked: within, isKey.
  bytes.Compare, walked.
  Package manifest, walked: runFits.
  A map[int]bool that is only joined; a list of runs, a version, as they lie in memory.
-/
import Derived.Test.YtgaidmohdhaonaaGreatDoorYD
import Derived.Lib.BytesEntry
namespace Go.Proofs.YtgaidmohdhaonaaGreatDoor
set_option linter.unusedVariables false
set_option linter.unusedSimpArgs false
set_option linter.unnecessarySimpa false
set_option linter.unusedSectionVars false
open Go Go.RowKit

set_option maxRecDepth 100000 in
theorem within_any {w : World} {n lo hi : Int} : Calls Tryz.prog 129 #[.int .i64 n, .int .i64 lo, .int .i64 hi] w fun e w' => e = .returned (.bool (decide (lo ≤ n ∧ n ≤ hi))) ∧ w' = w := by
  by_cases h1 : lo ≤ n
  · by_cases h2 : n ≤ hi
    · have hd : decide (lo ≤ n ∧ n ≤ hi) = true := by simp; omega
      rw [hd]
      clear hd
      go_enter Tryz.func129, Tryz.ntmps129
      go_wp2
      go_ret
      exact ⟨rfl, rfl⟩
    · have hd : decide (lo ≤ n ∧ n ≤ hi) = false := by simp; omega
      rw [hd]
      clear hd
      go_enter Tryz.func129, Tryz.ntmps129
      go_wp2
      go_ret
      exact ⟨rfl, rfl⟩
  · have hd : decide (lo ≤ n ∧ n ≤ hi) = false := by simp; omega
    rw [hd]
    clear hd
    go_enter Tryz.func129, Tryz.ntmps129
    go_wp2
    go_ret
    exact ⟨rfl, rfl⟩

set_option maxRecDepth 100000 in
theorem isKey_any {w : World} {v : Value} {b : List UInt8} (hv : BAt w v b) (hl : b.length ≤ 140737488351232) :
    Calls Tryz.prog 169 #[v] w fun e w' => e = .returned (.bool (isKeyB b)) ∧ Upd (fun _ => False) w w' := by
  have HP := hid (parseKey_any hv hl)
  cases hk : isKeyB b
  · rw [hk] at HP
    clear hk
    go_enter Tryz.func169, Tryz.ntmps169
    go_wp2_with fail
    refine HP.out.mono ?_
    rintro e w1 ⟨x1, x2, x3, x4, x5, x6, x7, x8, x9, x0, rfl, hu⟩
    have HU := hid (hu.alloc (.cells (entC (.slice x1 x2 x3) x4 (.slice x5 x6 x7) x8 x9 x0) 215))
    clear hu
    go_wp2
    go_ret
    exact ⟨rfl, HU.out⟩
  · rw [hk] at HP
    clear hk
    go_enter Tryz.func169, Tryz.ntmps169
    go_wp2_with fail
    refine HP.out.mono ?_
    rintro e w1 ⟨x1, x2, x3, x4, x5, x6, x7, x8, x9, x0, rfl, hu⟩
    have HU := hid (hu.alloc (.cells (entC (.slice x1 x2 x3) x4 (.slice x5 x6 x7) x8 x9 x0) 215))
    clear hu
    go_wp2
    go_ret
    exact ⟨rfl, HU.out⟩

end Go.Proofs.YtgaidmohdhaonaaGreatDoor

namespace Go.Proofs.YtgaidmohdhaonaaGreatDoor
set_option linter.unusedVariables false
set_option linter.unusedSimpArgs false
set_option linter.unnecessarySimpa false
set_option linter.unusedSectionVars false
open Go Go.RowKit

/-- A slice's bytes, as the model's own entries read them. -/
theorem run_bytesOf {w : World} {v : Value} {bs : List UInt8} (h : BAt w v bs) : (Extern.Bytes.bytesOf v).run Tryz.prog w = .ok (toBA bs) w := by
  obtain ⟨ao, cap, rfl, -, -, h3, h4⟩ := h
  cases ao with
  | none =>
    obtain ⟨rfl, -⟩ := h3 rfl
    rfl
  | some a =>
    have hl := Lib.run_loadBytesX (P := Tryz.prog) w (bs.map fun c => ((c.toNat : Nat) : Int)) a .empty (fun j x hx => by
      rw [List.getElem?_map] at hx
      obtain ⟨c, hc, rfl⟩ := Option.map_eq_some_iff.1 hx
      obtain ⟨hj, rfl⟩ := List.getElem?_eq_some_iff.1 hc
      obtain ⟨g, o, e, -, hcell⟩ := h4 j hj
      injection e with e
      subst e
      rw [show (Addr.add ⟨g, o, none⟩ j : Addr) = ⟨g, o + j, none⟩ from by simp [Addr.add_lit]]
      exact hcell)
    rw [List.length_map] at hl
    show (Extern.Bytes.loadBytes a bs.length .empty).run Tryz.prog w = _
    rw [hl]
    congr 1
    apply ByteArray.ext
    show (#[] : Array UInt8) ++ _ = bs.toArray
    simp [Lib.bytesOf, Function.comp_def]

theorem run_compare {w : World} {v1 v2 : Value} {b1 b2 : List UInt8} (h1 : BAt w v1 b1) (h2 : BAt w v2 b2) :
    (Extern.BytealgCompare.compare #[v1, v2]).run Tryz.prog w = .ok (.int .i64 (Lib.compareBytes b1 b2)) w := by
  change Sem.run Tryz.prog (do pure (goInt (Extern.BytealgCompare.cmp (← Extern.Bytes.bytesOf v1) (← Extern.Bytes.bytesOf v2)))) w = _
  simp only [Sem.run_bind, Sem.run_pure, run_bytesOf h1, run_bytesOf h2, Result.andThen]
  rw [Lib.cmp_eq]
  rfl

set_option maxRecDepth 100000 in
theorem compare_any {w : World} {v1 v2 : Value} {b1 b2 : List UInt8} (h1 : BAt w v1 b1) (h2 : BAt w v2 b2) :
    Calls Tryz.prog 170 #[v1, v2] w fun e w' => e = .returned (.int .i64 (Lib.compareBytes b1 b2)) ∧ w' = w := by
  have HR := hid (run_compare h1 h2)
  go_enter Tryz.func170, Tryz.ntmps170
  go_wp2
  rw [run_callFunc_extern Tryz.func188 (by kernel_rfl) (by kernel_rfl) (by kernel_rfl) (e := Extern.BytealgCompare.compare) (by kernel_rfl), HR.out]
  simp only [Result.andThen]
  rw [Oper.upon_value]
  go_wp2
  go_ret
  exact ⟨rfl, rfl⟩

theorem compare_le : ∀ a b : List UInt8, decide (Lib.compareBytes a b ≤ 0) = leL a b
  | [], [] => rfl
  | [], _ :: _ => rfl
  | _ :: _, [] => rfl
  | a :: l, b :: m => by
    rw [Lib.compareBytes, leL]
    have e1 : (a < b) = (a.toNat < b.toNat) := rfl
    have e2 : (b < a) = (b.toNat < a.toNat) := rfl
    simp only [e1, e2]
    split
    · rfl
    · split
      · rfl
      · exact compare_le l m

end Go.Proofs.YtgaidmohdhaonaaGreatDoor

namespace Go.Proofs.YtgaidmohdhaonaaGreatDoor
set_option linter.unusedVariables false
set_option linter.unusedSimpArgs false
set_option linter.unnecessarySimpa false
set_option linter.unusedSectionVars false
open Go Go.RowKit

/-- A run's record; a version's record. -/
structure MetaAt (w : World) (v : Value) (r : MetaA) : Prop where
  eq : ∃ a1 c1 a2 c2, v = .agg #[.int .i64 r.num, .int .i64 r.count, .int .i64 r.index, .int .i64 r.low, .int .i64 r.clock, .int .i64 r.bytes, .slice a1 r.first.length c1, .slice a2 r.last.length c2] ∧ BAt w (.slice a1 r.first.length c1) r.first ∧ BAt w (.slice a2 r.last.length c2) r.last

/-- A version's own numbers, as a record. -/
def VerNums (v : Value) (x : VerA) : Prop := ∃ s u, v = .agg #[.int .i64 x.gen, .int .i64 x.flushed, .int .i64 x.next, .int .i64 x.low, .int .i64 x.clock, s, u]

set_option maxRecDepth 100000 in
set_option maxHeartbeats 6400000 in
theorem runFits_any {w : World} {v1 v2 : Value} {x : VerA} {r : MetaA} (hx : VerNums v1 x) (hr : MetaAt w v2 r) (hn : 1 ≤ x.next) (hn2 : x.next ≤ 9223372036854775807) (hl1 : r.first.length ≤ 140737488351232) (hl2 : r.last.length ≤ 140737488351232) :
    Calls Tryz.prog 130 #[v1, v2] w fun e w' => e = .returned (.bool (fitsA x r)) ∧ Upd (fun _ => False) w w' := by
  obtain ⟨s, u, rfl⟩ := hx
  obtain ⟨a1, c1, a2, c2, rfl, hb1, hb2⟩ := hr.eq
  have HB1 := hid hb1; have HB2 := hid hb2
  clear hb1 hb2 hr
  go_enter Tryz.func130, Tryz.ntmps130
  go_upto_region 1 with fail
  have hsub : IntKind.i64.wrap (x.next - 1) = x.next - 1 := by rw [IntKind.wrap_i64]; omega
  have HW := hid (fun (W : World) (n lo hi : Int) (h : lo ≤ n ∧ n ≤ hi) => show Calls Tryz.prog 129 #[.int .i64 n, .int .i64 lo, .int .i64 hi] W fun e w' => e = .returned (.bool true) ∧ w' = W from by have h1 := within_any (w := W) (n := n) (lo := lo) (hi := hi); rwa [show decide (lo ≤ n ∧ n ≤ hi) = true from by simpa using h] at h1)
  have HN := hid (fun (W : World) (n lo hi : Int) (h : ¬ (lo ≤ n ∧ n ≤ hi)) => show Calls Tryz.prog 129 #[.int .i64 n, .int .i64 lo, .int .i64 hi] W fun e w' => e = .returned (.bool false) ∧ w' = W from by have h1 := within_any (w := W) (n := n) (lo := lo) (hi := hi); rwa [show decide (lo ≤ n ∧ n ≤ hi) = false from by simpa using h] at h1)
  go_cut [5] (fun b wx => b = .bool (ins r.num 1 (x.next - 1) && decide (1 ≤ r.count) && ins r.index 0 x.flushed && ins r.bytes 1 16777216) ∧ wx = ((w.alloc (.cells #[.int .i64 x.gen, .int .i64 x.flushed, .int .i64 x.next, .int .i64 x.low, .int .i64 x.clock, s, u] 25)).alloc (.cells #[.int .i64 r.num, .int .i64 r.count, .int .i64 r.index, .int .i64 r.low, .int .i64 r.clock, .int .i64 r.bytes, .slice a1 r.first.length c1, .slice a2 r.last.length c2] 48)))
  case first =>
    have HUP := hid (((Upd.refl (fun _ => False) w).alloc (.cells #[.int .i64 x.gen, .int .i64 x.flushed, .int .i64 x.next, .int .i64 x.low, .int .i64 x.clock, s, u] 25)).alloc (.cells #[.int .i64 r.num, .int .i64 r.count, .int .i64 r.index, .int .i64 r.low, .int .i64 r.clock, .int .i64 r.bytes, .slice a1 r.first.length c1, .slice a2 r.last.length c2] 48))
    by_cases h0 : 1 ≤ r.num ∧ r.num ≤ (x.next - 1)
    · skip
      by_cases hc : 1 ≤ r.count
      · skip
        by_cases h2 : 0 ≤ r.index ∧ r.index ≤ x.flushed
        · skip
          by_cases h3 : 1 ≤ r.bytes ∧ r.bytes ≤ 16777216
          · skip
            go_wp2_with fail
            refine (HW.out _ _ _ _ h0).mono ?_
            rintro e wn ⟨rfl, hww⟩
            subst hww
            go_wp2_with fail
            refine (HW.out _ _ _ _ h2).mono ?_
            rintro e wn ⟨rfl, hww⟩
            subst hww
            go_wp2_with fail
            refine (HW.out _ _ _ _ h3).mono ?_
            rintro e wn ⟨rfl, hww⟩
            subst hww
            go_wp2
            go_meet
            case rel => exact ⟨by first | (simp [ins, *]; done) | (simp [ins]; omega) | (simp [ins, *]; omega), rfl⟩
          · skip
            go_wp2_with fail
            refine (HW.out _ _ _ _ h0).mono ?_
            rintro e wn ⟨rfl, hww⟩
            subst hww
            go_wp2_with fail
            refine (HW.out _ _ _ _ h2).mono ?_
            rintro e wn ⟨rfl, hww⟩
            subst hww
            go_wp2_with fail
            refine (HN.out _ _ _ _ h3).mono ?_
            rintro e wn ⟨rfl, hww⟩
            subst hww
            go_wp2
            go_meet
            case rel => exact ⟨by first | (simp [ins, *]; done) | (simp [ins]; omega) | (simp [ins, *]; omega), rfl⟩
        · skip
          go_wp2_with fail
          refine (HW.out _ _ _ _ h0).mono ?_
          rintro e wn ⟨rfl, hww⟩
          subst hww
          go_wp2_with fail
          refine (HN.out _ _ _ _ h2).mono ?_
          rintro e wn ⟨rfl, hww⟩
          subst hww
          go_wp2
          go_meet
          case rel => exact ⟨by first | (simp [ins, *]; done) | (simp [ins]; omega) | (simp [ins, *]; omega), rfl⟩
      · skip
        go_wp2_with fail
        refine (HW.out _ _ _ _ h0).mono ?_
        rintro e wn ⟨rfl, hww⟩
        subst hww
        go_wp2
        go_meet
        case rel => exact ⟨by first | (simp [ins, *]; done) | (simp [ins]; omega) | (simp [ins, *]; omega), rfl⟩
    · skip
      go_wp2_with fail
      refine (HN.out _ _ _ _ h0).mono ?_
      rintro e wn ⟨rfl, hww⟩
      subst hww
      go_wp2
      go_meet
      case rel => exact ⟨by first | (simp [ins, *]; done) | (simp [ins]; omega) | (simp [ins, *]; omega), rfl⟩
  case rest =>
    obtain ⟨hv5, hcw⟩ := hcut
    subst hcw
    obtain ⟨B1, hB1⟩ : ∃ B1, B1 = (ins r.num 1 (x.next - 1) && decide (1 ≤ r.count) && ins r.index 0 x.flushed && ins r.bytes 1 16777216) := ⟨_, rfl⟩
    rw [← hB1] at hv5
    subst hv5
    have HB1' := hid hB1
    clear hB1
    go_upto_region 2 with fail
    go_cut [6] (fun b wx => b = .bool (ins r.clock 1 x.clock && ins r.low 0 x.low && decide (r.low < r.clock)) ∧ wx = ((w.alloc (.cells #[.int .i64 x.gen, .int .i64 x.flushed, .int .i64 x.next, .int .i64 x.low, .int .i64 x.clock, s, u] 25)).alloc (.cells #[.int .i64 r.num, .int .i64 r.count, .int .i64 r.index, .int .i64 r.low, .int .i64 r.clock, .int .i64 r.bytes, .slice a1 r.first.length c1, .slice a2 r.last.length c2] 48)))
    case first =>
      by_cases k0 : 1 ≤ r.clock ∧ r.clock ≤ x.clock
      · skip
        by_cases k1 : 0 ≤ r.low ∧ r.low ≤ x.low
        · skip
          by_cases hlt : r.low < r.clock
          · skip
            go_wp2_with fail
            refine (HW.out _ _ _ _ k0).mono ?_
            rintro e wn ⟨rfl, hww⟩
            subst hww
            go_wp2_with fail
            refine (HW.out _ _ _ _ k1).mono ?_
            rintro e wn ⟨rfl, hww⟩
            subst hww
            go_wp2
            go_meet
            case rel => exact ⟨by first | (simp [ins, *]; done) | (simp [ins]; omega) | (simp [ins, *]; omega), rfl⟩
          · skip
            go_wp2_with fail
            refine (HW.out _ _ _ _ k0).mono ?_
            rintro e wn ⟨rfl, hww⟩
            subst hww
            go_wp2_with fail
            refine (HW.out _ _ _ _ k1).mono ?_
            rintro e wn ⟨rfl, hww⟩
            subst hww
            go_wp2
            go_meet
            case rel => exact ⟨by first | (simp [ins, *]; done) | (simp [ins]; omega) | (simp [ins, *]; omega), rfl⟩
        · skip
          go_wp2_with fail
          refine (HW.out _ _ _ _ k0).mono ?_
          rintro e wn ⟨rfl, hww⟩
          subst hww
          go_wp2_with fail
          refine (HN.out _ _ _ _ k1).mono ?_
          rintro e wn ⟨rfl, hww⟩
          subst hww
          go_wp2
          go_meet
          case rel => exact ⟨by first | (simp [ins, *]; done) | (simp [ins]; omega) | (simp [ins, *]; omega), rfl⟩
      · skip
        go_wp2_with fail
        refine (HN.out _ _ _ _ k0).mono ?_
        rintro e wn ⟨rfl, hww⟩
        subst hww
        go_wp2
        go_meet
        case rel => exact ⟨by first | (simp [ins, *]; done) | (simp [ins]; omega) | (simp [ins, *]; omega), rfl⟩
    case rest =>
      obtain ⟨hv6, hcw⟩ := hcut
      subst hcw
      obtain ⟨B2, hB2⟩ : ∃ B2, B2 = (ins r.clock 1 x.clock && ins r.low 0 x.low && decide (r.low < r.clock)) := ⟨_, rfl⟩
      rw [← hB2] at hv6
      subst hv6
      have HF := hid (show fitsA x r = (B1 && B2 && (isKeyB r.first && (isKeyB r.last && leL r.first r.last))) from by unfold fitsA; rw [HB1'.out, hB2])
      clear hB2
      have HU0 := hid (((Upd.refl (fun _ => False) w).alloc (.cells #[.int .i64 x.gen, .int .i64 x.flushed, .int .i64 x.next, .int .i64 x.low, .int .i64 x.clock, s, u] 25)).alloc (.cells #[.int .i64 r.num, .int .i64 r.count, .int .i64 r.index, .int .i64 r.low, .int .i64 r.clock, .int .i64 r.bytes, .slice a1 r.first.length c1, .slice a2 r.last.length c2] 48))
      have hrow : (((w.alloc (.cells #[.int .i64 x.gen, .int .i64 x.flushed, .int .i64 x.next, .int .i64 x.low, .int .i64 x.clock, s, u] 25)).alloc (.cells #[.int .i64 r.num, .int .i64 r.count, .int .i64 r.index, .int .i64 r.low, .int .i64 r.clock, .int .i64 r.bytes, .slice a1 r.first.length c1, .slice a2 r.last.length c2] 48))).heap[w.heap.size + 1]? = some (.cells #[.int .i64 r.num, .int .i64 r.count, .int .i64 r.index, .int .i64 r.low, .int .i64 r.clock, .int .i64 r.bytes, .slice a1 r.first.length c1, .slice a2 r.last.length c2] 48 (0, 0)) := by
        have h := heap_alloc_new (w.alloc (.cells #[.int .i64 x.gen, .int .i64 x.flushed, .int .i64 x.next, .int .i64 x.low, .int .i64 x.clock, s, u] 25)) (.cells #[.int .i64 r.num, .int .i64 r.count, .int .i64 r.index, .int .i64 r.low, .int .i64 r.clock, .int .i64 r.bytes, .slice a1 r.first.length c1, .slice a2 r.last.length c2] 48)
        simpa using h
      have HC6 := hid (cell_of_row _ _ 6 _ _ _ hrow)
      have HC7 := hid (cell_of_row _ _ 7 _ _ _ hrow)
      clear hrow
      have HSZ := hid (show w.heap.size + 1 < (((w.alloc (.cells #[.int .i64 x.gen, .int .i64 x.flushed, .int .i64 x.next, .int .i64 x.low, .int .i64 x.clock, s, u] 25)).alloc (.cells #[.int .i64 r.num, .int .i64 r.count, .int .i64 r.index, .int .i64 r.low, .int .i64 r.clock, .int .i64 r.bytes, .slice a1 r.first.length c1, .slice a2 r.last.length c2] 48))).heap.size from by simp)
      generalize ((w.alloc (.cells #[.int .i64 x.gen, .int .i64 x.flushed, .int .i64 x.next, .int .i64 x.low, .int .i64 x.clock, s, u] 25)).alloc (.cells #[.int .i64 r.num, .int .i64 r.count, .int .i64 r.index, .int .i64 r.low, .int .i64 r.clock, .int .i64 r.bytes, .slice a1 r.first.length c1, .slice a2 r.last.length c2] 48)) = W0 at HU0 HC6 HC7 HSZ ⊢
      have HK1 := hid (isKey_any (w := W0) (HB1.out.keep HU0.out) hl1)
      cases B1
      · skip
        go_wp2
        go_ret
        exact ⟨by rw [HF.out]; rfl, HU0.out⟩
      · cases B2
        · skip
          go_wp2
          go_ret
          exact ⟨by rw [HF.out]; rfl, HU0.out⟩
        · skip
          have hc6 := HC6.out
          go_wp2_with fail
          refine HK1.out.mono ?_
          rintro e w1 ⟨rfl, hu1⟩
          have HU1 := hid (HU0.out.trans hu1 (fun _ _ e => e))
          have HC6' := hid (hu1.cell HSZ.out HC6.out)
          have HC7' := hid (hu1.cell HSZ.out HC7.out)
          have HSZ' := hid (Nat.lt_of_lt_of_le HSZ.out hu1.size)
          clear hu1 hc6
          have HK2 := hid (isKey_any (w := w1) (HB2.out.keep HU1.out) hl2)
          obtain ⟨k1, hk1⟩ : ∃ k1, k1 = isKeyB r.first := ⟨_, rfl⟩
          rw [← hk1] at HF ⊢
          clear hk1
          cases k1
          · skip
            go_wp2
            go_ret
            exact ⟨by rw [HF.out]; rfl, HU1.out⟩
          · skip
            have hc7 := HC7'.out
            go_wp2_with fail
            refine HK2.out.mono ?_
            rintro e w2 ⟨rfl, hu2⟩
            have HU2 := hid (HU1.out.trans hu2 (fun _ _ e => e))
            have HC6'' := hid (hu2.cell HSZ'.out HC6'.out)
            have HC7'' := hid (hu2.cell HSZ'.out HC7'.out)
            clear hu2 hc7
            have HCMP := hid (compare_any (w := w2) (HB1.out.keep HU2.out) (HB2.out.keep HU2.out))
            obtain ⟨k2, hk2⟩ : ∃ k2, k2 = isKeyB r.last := ⟨_, rfl⟩
            rw [← hk2] at HF ⊢
            clear hk2
            cases k2
            · skip
              go_wp2
              go_ret
              exact ⟨by rw [HF.out]; rfl, HU2.out⟩
            · skip
              have hc6 := HC6''.out
              have hc7 := HC7''.out
              go_wp2_with fail
              refine HCMP.out.mono ?_
              rintro e w3 ⟨rfl, rfl⟩
              clear hc6 hc7
              have HLE := hid (compare_le r.first r.last)
              go_wp2
              go_ret
              exact ⟨by rw [HF.out, ← HLE.out]; rfl, HU2.out⟩

end Go.Proofs.YtgaidmohdhaonaaGreatDoor

namespace Go.Proofs.YtgaidmohdhaonaaGreatDoor
set_option linter.unusedVariables false
set_option linter.unusedSimpArgs false
set_option linter.unnecessarySimpa false
set_option linter.unusedSectionVars false
open Go Go.RowKit

def kb (k : Int) : Value × Value := (.int .i64 k, .bool true)
/-- Block m is a map[int]bool that holds true at just these keys. -/
def SetI (w : World) (m : Nat) (L : List Int) : Prop := ∃ es clock, w.heap[m]? = some (.map es clock) ∧ es.toList.map kv = L.map kb

theorem SetI.keep {w w' : World} {m : Nat} {L : List Int} (h : SetI w m L) {S : Nat → Prop} (hu : Upd S w w') (hn : ¬ S m) : SetI w' m L := by
  obtain ⟨es, c, h1, h2⟩ := h
  exact ⟨es, c, hu.get h1 hn, h2⟩
theorem SetI.made (w : World) : SetI (w.alloc (.map #[] 0)) w.heap.size [] := ⟨#[], 0, heap_alloc_new _ _, rfl⟩

theorem findNow_int (k : Int) : ∀ (l : List MapEntry) (L : List Int) (i : Nat), l.map kv = L.map kb →
    (k ∈ L → ∃ n, Instr.findNow (.int .i64) (.int .i64 k) l i = some (some (n, .bool true))) ∧ (k ∉ L → Instr.findNow (.int .i64) (.int .i64 k) l i = some none)
  | [], L, i, h => by
    cases L with
    | nil => exact ⟨fun e => by simp at e, fun _ => rfl⟩
    | cons p L => simp at h
  | e :: l, L, i, h => by
    cases L with
    | nil => simp at h
    | cons p L =>
      simp only [List.map_cons, List.cons.injEq, kv, kb, Prod.mk.injEq] at h
      obtain ⟨⟨hk, hv⟩, ht⟩ := h
      have hs : Instr.sameNow (.int .i64) (.int .i64 k) e.key = some (decide (k = p)) := by rw [hk]; simp only [Instr.sameNow, if_pos]; by_cases h : k = p <;> simp [h]
      have ih := findNow_int k l L (i + 1) ht
      by_cases he : k = p
      · refine ⟨fun _ => ⟨i, ?_⟩, fun hn => absurd (by simp [he]) hn⟩
        simp only [Instr.findNow, hs]; simp [he, hv]
      · refine ⟨fun hm => ?_, fun hn => ?_⟩
        · obtain ⟨n, hn⟩ := ih.1 (by simpa [he] using hm)
          exact ⟨n, by simp only [Instr.findNow, hs]; simp [he, hn]⟩
        · simp only [Instr.findNow, hs]; simp [he, ih.2 (by simp only [List.mem_cons, not_or] at hn; exact hn.2)]

section
variable {P : Program} {w : World} {T K EL : TypeId} {m : Nat} {L : List Int}

theorem run_checkKey_int (hk : P.underlying K = some (.int .i64)) (b : Bool) (k : Int) : (Instr.checkKey b 10000 K (.int .i64 k)).run P w = .ok () w := by
  unfold Instr.checkKey
  simp only [Sem.run_bind, run_underlying hk, Result.andThen, Sem.run_pure]

theorem run_lookup_set (ht : P.underlying T = some (.map K EL)) (hk : P.underlying K = some (.int .i64)) (hz : ∀ w, (zeroValue EL).run P w = .ok (.bool false) w) (h : SetI w m L) (k : Int) :
    (Instr.lookup T (.map (some m)) (.int .i64 k) false).run P w = .ok (.bool (decide (k ∈ L))) w := by
  obtain ⟨es, c, h1, h2⟩ := h
  have hf := findNow_int k es.toList L 0 h2
  by_cases hm : k ∈ L
  · obtain ⟨n, g1⟩ := hf.1 hm
    simp [Instr.lookup, run_underlying ht, MapKept.run_getObj_map h1, run_checkKey_int hk, MapKept.run_findKey hk g1, hz, Result.andThen, hm]
  · have g1 := hf.2 hm
    simp [Instr.lookup, run_underlying ht, MapKept.run_getObj_map h1, run_checkKey_int hk, MapKept.run_findKey hk g1, hz, Result.andThen, hm]

theorem run_join_set (ht : P.underlying T = some (.map K EL)) (hk : P.underlying K = some (.int .i64)) (h : SetI w m L) (k : Int) (hm : k ∉ L) :
    ∃ w', (Instr.mapUpdate T (.map (some m)) (.int .i64 k) (.bool true)).run P w = .ok () w' ∧ SetI w' m (L ++ [k]) ∧ Upd (fun b => b = m) w w' := by
  obtain ⟨es, c, h1, h2⟩ := h
  have g1 := (findNow_int k es.toList L 0 h2).2 hm
  refine ⟨{ w with heap := w.heap.setIfInBounds m (.map (es.push { key := .int .i64 k, val := .bool true, born := c }) (c + 1)) }, ?_, ⟨_, _, (MapKept.heap_set h1).1, ?_⟩, Upd.block_only _ _ _⟩
  · simp [Instr.mapUpdate, run_underlying ht, MapKept.run_getObj_map h1, run_checkKey_int hk, MapKept.run_findKey hk g1, MapKept.run_setObj_map _ h1, Result.andThen]
  · simp only [Array.toList_push, List.map_append, List.map_cons, List.map_nil]; rw [h2]; rfl
end

/-- v is a slice that reads as these runs. -/
def RunsAt (w : World) (v : Value) (l : List MetaA) : Prop :=
  ∃ ao cap, v = .slice ao l.length cap ∧ l.length ≤ cap ∧ cap ≤ 9223372036854775807 ∧ ∀ k (hk : k < l.length), ∃ b o f1 c1 f2 c2, ao = some ⟨b, o, none⟩ ∧ b < w.heap.size ∧
    w.cell? ⟨b, o + k * 8, none⟩ = some (.int .i64 l[k].num) ∧ w.cell? ⟨b, o + k * 8 + 1, none⟩ = some (.int .i64 l[k].count) ∧ w.cell? ⟨b, o + k * 8 + 2, none⟩ = some (.int .i64 l[k].index) ∧
    w.cell? ⟨b, o + k * 8 + 3, none⟩ = some (.int .i64 l[k].low) ∧ w.cell? ⟨b, o + k * 8 + 4, none⟩ = some (.int .i64 l[k].clock) ∧ w.cell? ⟨b, o + k * 8 + 5, none⟩ = some (.int .i64 l[k].bytes) ∧
    w.cell? ⟨b, o + k * 8 + 6, none⟩ = some (.slice f1 l[k].first.length c1) ∧ w.cell? ⟨b, o + k * 8 + 7, none⟩ = some (.slice f2 l[k].last.length c2) ∧ BAt w (.slice f1 l[k].first.length c1) l[k].first ∧ BAt w (.slice f2 l[k].last.length c2) l[k].last

theorem RunsAt.keep {w w' : World} {v : Value} {l : List MetaA} (h : RunsAt w v l) (hu : Upd (fun _ => False) w w') : RunsAt w' v l := by
  obtain ⟨ao, cap, e, h1, h2, h3⟩ := h
  refine ⟨ao, cap, e, h1, h2, fun k hk => ?_⟩
  obtain ⟨b, o, f1, c1, f2, c2, ha, hb, g0, g1, g2, g3, g4, g5, g6, g7, hB1, hB2⟩ := h3 k hk
  exact ⟨b, o, f1, c1, f2, c2, ha, Nat.lt_of_lt_of_le hb hu.size, hu.cell hb g0, hu.cell hb g1, hu.cell hb g2, hu.cell hb g3, hu.cell hb g4, hu.cell hb g5, hu.cell hb g6, hu.cell hb g7, hB1.keep hu, hB2.keep hu⟩

/-- A version's record, with what it leads to. -/
def VerAt (w : World) (v : Value) (x : VerA) : Prop :=
  ∃ s1 d1 s2 d2, v = .agg #[.int .i64 x.gen, .int .i64 x.flushed, .int .i64 x.next, .int .i64 x.low, .int .i64 x.clock, .slice s1 x.state.length d1, .slice s2 x.runs.length d2] ∧ BAt w (.slice s1 x.state.length d1) x.state ∧ RunsAt w (.slice s2 x.runs.length d2) x.runs

theorem VerAt.keep {w w' : World} {v : Value} {x : VerA} (h : VerAt w v x) (hu : Upd (fun _ => False) w w') : VerAt w' v x := by
  obtain ⟨s1, d1, s2, d2, e, h1, h2⟩ := h
  exact ⟨s1, d1, s2, d2, e, h1.keep hu, h2.keep hu⟩

end Go.Proofs.YtgaidmohdhaonaaGreatDoor
