/-
  Package stratalaw0, walked: NamesNumbers.
-/
import Derived.Test.YtlkdmapjmcibiaaDoorNumA
import Derived.Test.YtlkdmapjmcibiaaDoorShelf
import Derived.Lib.SmallJoins
namespace Go.Proofs.YtlkdmapjmcibiaaDoor
set_option linter.unusedVariables false
set_option linter.unusedSimpArgs false
set_option linter.unnecessarySimpa false
set_option linter.unusedSectionVars false
open Go Go.RowKit

theorem hid {p : Prop} (h : p) : Hid p := h

theorem below_grow' (w : World) (k : Nat) (os : Array Obj) : Below w.heap.size w (Sort.grow (w.drewN k) os) :=
  ⟨rfl, rfl, rfl, (by show w.heap.size ≤ (w.heap ++ os).size; simp), fun j hj => by show (w.heap ++ os)[j]? = _; rw [Array.getElem?_append_left hj]⟩

theorem errno_any (n : Int) (w : World) : Calls Tryd.prog 6 #[.int .i64 n] w fun e w' => e = .returned (.int .i64 n) ∧ w' = w := by
  go_enter Tryd.func6, Tryd.ntmps6
  go_wp2
  go_ret
  exact ⟨rfl, rfl⟩

theorem error_30 (w : World) : Calls Tryd.prog 7 #[.int .i64 30] w fun e w' => e = .returned (.string ⟨#[101, 114, 114, 111, 114, 32, 51, 48]⟩) ∧ w' = w := by
  have h := Tryd.strconv_Itoa_small 30 (by decide) w
  have hd : (⟨(Lib.decDigits 30).toArray⟩ : ByteArray) = ⟨#[51, 48]⟩ := by decide +kernel
  rw [hd] at h
  have H := hid h
  clear h hd
  go_enter Tryd.func7, Tryd.ntmps7
  go_wp2_with (go_at_call 8; refine H.out.mono ?_; rintro e w' ⟨rfl, hww⟩; obtain rfl := hww.symm)
  go_ret
  exact ⟨by first | rfl | (congr 1), rfl⟩

theorem error_m5 (w : World) (htab : Lib.TabIs Tryd.prog w "internal/strconv.uint64pow10" .u64 Lib.pow10Tab) : Calls Tryd.prog 7 #[.int .i64 (-5)] w fun e w' => e = .returned (.string ⟨#[101, 114, 114, 111, 114, 32, 45, 53]⟩) ∧ Below w.heap.size w w' := by
  have h := Tryd.strconv_Itoa (-5) (by decide) (by decide) w htab
  have hd : (⟨(Lib.itoa (-5)).toArray⟩ : ByteArray) = ⟨#[45, 53]⟩ := by decide +kernel
  rw [hd] at h
  have H := hid h
  clear h hd htab
  go_enter Tryd.func7, Tryd.ntmps7
  go_wp2_with fail
  refine H.out.mono ?_
  rintro e w1 ⟨rfl, k, os, hww⟩
  have hb : Below w.heap.size w w1 := by rw [hww]; exact below_grow' w k os
  have HB := hid hb
  clear hww hb
  go_wp2
  go_ret
  exact ⟨by first | rfl | (congr 1), HB.out⟩

set_option maxRecDepth 100000 in
set_option maxHeartbeats 1000000 in
theorem numbers_walk (w : World) (htab : Lib.TabIs Tryd.prog w "internal/strconv.uint64pow10" .u64 Lib.pow10Tab) :
    Calls Tryd.prog 3 #[] w fun e w' => e = .returned (.bool true) ∧ Below w.heap.size w w' := by
  obtain ⟨gg, hgg⟩ : ∃ g, Tryd.prog.globalNamed "internal/strconv.uint64pow10" = some g := Option.isSome_iff_exists.1 (by kernel_rfl)
  have HT := hid (fun w' (hb : Below w.heap.size w w') => Joins.tab_stays (B := w.heap.size) hgg htab hb (Nat.le_refl _))
  obtain ⟨cs, hcs, hpr, herr⟩ := errs_any w
  have HERR := hid herr; have HPR := hid hpr; have HCS := hid hcs
  clear htab herr hpr hcs hgg
  go_enter Tryd.func3, Tryd.ntmps3
  go_wp2_with fail
  refine HERR.out.mono ?_
  rintro e w1 ⟨rfl, hw1⟩
  have hcell := heap_alloc_new w (.cells cs 25)
  rw [← hw1] at hcell
  have hsz1 : w1.heap.size = w.heap.size + 1 := by rw [hw1]; simp
  have hb1 : Below w.heap.size w w1 := by rw [hw1]; exact (Below.refl _ _).alloc (Nat.le_refl _) _
  have HC := hid hcell; have HB1 := hid hb1
  have hgl : w.heap.size < w1.heap.size := by omega
  clear hw1 hcell hb1 hsz1
  go_wp2
  go_loopw [8] (fun i wr => ∃ k : Nat, k ≤ 105 ∧ i = .int .i64 k ∧ Below w1.heap.size w1 wr) (fun i _ => 105 - (intOf i).toNat)
  case atStart => exact ⟨0, by omega, rfl, Below.refl _ _⟩
  case round =>
    obtain ⟨k, hk, rfl, hbr⟩ := hrel
    by_cases hlt : k < 105
    · obtain ⟨a, ha, hb⟩ := pairsOk_at HPR.out k (by have := HCS.out; omega)
      have c0 : wr.cell? ⟨w.heap.size, k * 2, none⟩ = some (.int .i64 a) := by rw [hbr.cell (p := ⟨w.heap.size, k * 2, none⟩) hgl, cell_of_row w1 _ _ _ _ _ HC.out, Nat.mul_comm]; exact ha
      have c1 : wr.cell? ⟨w.heap.size, k * 2 + 1, none⟩ = some (.int .i64 a) := by rw [hbr.cell (p := ⟨w.heap.size, k * 2 + 1, none⟩) hgl, cell_of_row w1 _ _ _ _ _ HC.out, Nat.mul_comm]; exact hb
      have hgr : w.heap.size < wr.heap.size := Nat.lt_of_lt_of_le hgl hbr.size
      have HBR := hid hbr
      clear ha hb hbr
      go_wp2
      go_roundw
      case rel => exact ⟨k + 1, by omega, by go_num, HBR.out.alloc (HBR.out.size) _⟩
      case measure => simp [intOf]; omega
    · obtain rfl : k = 105 := by omega
      have HBR := hid hbr
      obtain ⟨cs2, hcs2, hpr2, herr2⟩ := limits_any wr
      have HERR2 := hid herr2; have HPR2 := hid hpr2; have HCS2 := hid hcs2
      clear hbr herr2 hpr2 hcs2 HERR HPR HCS HC hgl hlt hk
      go_wp2_with fail
      refine HERR2.out.mono ?_
      rintro e w2 ⟨rfl, hw2⟩
      have hcell2 := heap_alloc_new wr (.cells cs2 25)
      rw [← hw2] at hcell2
      have hgl2 : wr.heap.size < w2.heap.size := by rw [hw2]; simp
      have hb2 : Below wr.heap.size wr w2 := by rw [hw2]; exact (Below.refl _ _).alloc (Nat.le_refl _) _
      have hb2' := Nat.le_trans HB1.out.size HBR.out.size
      obtain ⟨G, hG⟩ : ∃ G, G = wr.heap.size := ⟨_, rfl⟩
      have HB2 := hid (HB1.out.trans ((HBR.out.mono HB1.out.size).trans (hb2.mono hb2')))
      rw [← hG] at hcell2 hgl2 ⊢
      have HC2 := hid hcell2
      clear hw2 hcell2 hb2 hb2' hG
      go_wp2
      go_loopw [20] (fun i wr => ∃ k : Nat, k ≤ 92 ∧ i = .int .i64 k ∧ Below w2.heap.size w2 wr) (fun i _ => 92 - (intOf i).toNat)
      case atStart => exact ⟨0, by omega, rfl, Below.refl _ _⟩
      case round =>
        obtain ⟨k, hk, rfl, hbr⟩ := hrel
        by_cases hlt : k < 92
        · obtain ⟨a, ha, hb⟩ := pairsOk_at HPR2.out k (by have := HCS2.out; omega)
          have c0 : wr.cell? ⟨G, k * 2, none⟩ = some (.int .i64 a) := by rw [hbr.cell (p := ⟨G, k * 2, none⟩) hgl2, cell_of_row w2 _ _ _ _ _ HC2.out, Nat.mul_comm]; exact ha
          have c1 : wr.cell? ⟨G, k * 2 + 1, none⟩ = some (.int .i64 a) := by rw [hbr.cell (p := ⟨G, k * 2 + 1, none⟩) hgl2, cell_of_row w2 _ _ _ _ _ HC2.out, Nat.mul_comm]; exact hb
          have hgr : G < wr.heap.size := Nat.lt_of_lt_of_le hgl2 hbr.size
          have HBR2 := hid hbr
          clear ha hb hbr
          go_wp2
          go_roundw
          case rel => exact ⟨k + 1, by omega, by go_num, HBR2.out.alloc (HBR2.out.size) _⟩
          case measure => simp [intOf]; omega
        · obtain rfl : k = 92 := by omega
          have HALL := hid (HB2.out.trans (hbr.mono HB2.out.size))
          have H5 := hid (error_m5 wr (HT.out wr HALL.out))
          have H30 := hid (error_30 wr)
          clear hbr hlt hk hgl2
          go_wp2_with fail
          refine (errno_any 30 _).mono ?_
          rintro e w' ⟨rfl, hww⟩
          obtain rfl := hww.symm
          go_wp2_with fail
          refine H30.out.mono ?_
          rintro e w' ⟨rfl, hww⟩
          obtain rfl := hww.symm
          have hq1 : ((⟨#[101, 114, 114, 111, 114, 32, 51, 48]⟩ : ByteArray).toList == (⟨#[101, 114, 114, 111, 114, 32, 51, 48]⟩ : ByteArray).toList) = true := by simp
          go_wp2_with fail
          refine H5.out.mono ?_
          rintro e w5 ⟨rfl, hb5⟩
          have HB5 := hid (HALL.out.trans (hb5.mono HALL.out.size))
          clear hb5
          go_wp2
          go_ret
          exact ⟨by first | rfl | simp, HB5.out⟩

end Go.Proofs.YtlkdmapjmcibiaaDoor
