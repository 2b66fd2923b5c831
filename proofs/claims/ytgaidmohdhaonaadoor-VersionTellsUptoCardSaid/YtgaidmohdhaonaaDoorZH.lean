/-
  stratalaw10.whole; a byte of a list with one bit turned.
  The bulk of what was read.
-/
import Derived.Test.YtgaidmohdhaonaaDoorYU
import Derived.Test.YtgaidmohdhaonaaDoorZB
import Derived.Test.YtgaidmohdhaonaaDoorYP
import Derived.Test.YtgaidmohdhaonaaDoorZG
import Derived.Test.YtgaidmohdhaonaaDoorZA
import Derived.Test.YtgaidmohdhaonaaDoorRows
namespace Go.Proofs.YtgaidmohdhaonaaDoor
set_option linter.unusedVariables false
set_option linter.unusedSimpArgs false
set_option linter.unnecessarySimpa false
set_option linter.unusedSectionVars false
open Go Go.RowKit

set_option maxRecDepth 100000 in
/-- A number from lo to hi made of any. -/
theorem whole_any (n lo hi : Int) (h1 : lo ≤ hi) (h0 : 0 ≤ lo) (h2 : hi ≤ 1099511627776) (w : World) :
    Calls Tryd.prog 9 #[.int .i64 n, .int .i64 lo, .int .i64 hi] w fun e w' => e = .returned (.int .i64 (lo + n % (hi - lo + 1))) ∧ w' = w := by
  obtain ⟨N, hN⟩ : ∃ N, N = hi - lo + 1 := ⟨_, rfl⟩
  have hN1 : 1 ≤ N := by omega
  have hb1 : -N < n.tmod N := Int.lt_tmod_of_pos n (by omega)
  have hb2 : n.tmod N < N := Int.tmod_lt_of_pos n (by omega)
  have hq := Int.mul_tdiv_add_tmod n N
  obtain ⟨r, hr⟩ : ∃ r, r = n.tmod N := ⟨_, rfl⟩
  rw [← hr] at hb1 hb2 hq
  have hem : n % N = if r < 0 then r + N else r := by
    have e1 : n = r + n.tdiv N * N := by rw [Int.mul_comm]; omega
    have e2 : n % N = r % N := by conv => lhs; rw [e1]
                                  exact Int.add_mul_emod_self_right ..
    rw [e2]
    split
    · rw [← Int.add_emod_right, Int.emod_eq_of_lt (by omega) (by omega)]
    · exact Int.emod_eq_of_lt (by omega) (by omega)
  rw [← hN, hem]
  have hr' : n.tmod N = r := hr.symm
  have hz : ¬ N = 0 := by omega
  have hNi : hi - lo + 1 = N := hN.symm
  clear hN hr hq hem
  by_cases hneg : r < 0
  · rw [if_pos hneg]
    have HF : Hid (lo + (r + N) = lo + (r + hi - lo + 1)) := hid (by omega)
    go_enter Tryd.func9, Tryd.ntmps9
    go_wp2
    go_ret
    exact ⟨by rw [HF.out]; rfl, rfl⟩
  · rw [if_neg hneg]
    go_enter Tryd.func9, Tryd.ntmps9
    go_wp2
    go_ret
    exact ⟨rfl, rfl⟩

/-- A byte of a list is written. -/
theorem DataIs.setB {w : World} {g cap k : Nat} {bs : List UInt8} (h : DataIs w (.slice (some ⟨g, 0, none⟩) bs.length cap) bs) (hk : k < bs.length) (m : UInt8) :
    DataIs (w.setCell ⟨g, k, none⟩ (byteV m)) (.slice (some ⟨g, 0, none⟩) bs.length cap) (bs.set k m) := by
  rcases h with ⟨e, _⟩ | ⟨g', cap', cur, e, h1, h2, h3, h4, h5⟩
  · cases e
  · injection e with e1 _ e3
    injection e1 with e1; injection e1 with e1
    subst e1 e3
    refine .inr ⟨g, cap, cur.setIfInBounds k (byteV m), by simp, heap_setCell_at _ _ _ _ _ _ h1, by simpa using h2, by simpa using h3, h4, ?_⟩
    rw [List.length_set, List.map_set, Array.toList_setIfInBounds, List.take_set, h5]
theorem DataIs.at_b {w : World} {g cap N k : Nat} {bs : List UInt8} (h : DataIs w (.slice (some ⟨g, 0, none⟩) N cap) bs) (hN : N = bs.length) (hk : k < bs.length) : w.cell? ⟨g, k, none⟩ = some (byteV bs[k]) ∧ w.frozen? ⟨g, k, none⟩ = false ∧ g < w.heap.size := by
  subst hN
  rcases h with ⟨e, _⟩ | ⟨g', cap', cur, e, h1, h2, h3, h4, h5⟩
  · cases e
  · injection e with e1 _ e3
    injection e1 with e1; injection e1 with e1
    subst e1 e3
    refine ⟨?_, frozen_of_row _ _ _ _ _ h1, lt_of_heap h1⟩
    rw [cell_of_row w g k cur _ _ h1, ← Array.getElem?_toList]
    have h6 := congrArg (fun l => l[k]?) h5
    simp only [List.getElem?_take, if_pos hk] at h6
    rw [h6]
    simp [List.getElem?_eq_getElem hk]

/-- One bit of a list of bytes is turned. -/
theorem DataIs.flip {w : World} {g cap N k q m : Nat} {bs : List UInt8} {z : UInt8} (h : DataIs w (.slice (some ⟨g, 0, none⟩) N cap) bs) (hN : N = bs.length) (hk : q < N) (hq : q = k / 8) (hm : m = k % 8) (hz : bs[q]? = some z) :
    DataIs (w.setCell ⟨g, q, none⟩ (.int .u8 (bits .xor .u8 (z.toNat : Int) (2 ^ m % 256)))) (.slice (some ⟨g, 0, none⟩) N cap) (flipB bs k) := by
  subst hN hq hm
  have hm8 : k % 8 < 8 := Nat.mod_lt _ (by decide)
  have h2 : (2 : Nat) ^ (k % 8) < 256 := Nat.pow_lt_pow_right (n := 8) (by decide) hm8
  have h3 := h.setB hk (bs.getD (k / 8) 0 ^^^ UInt8.ofNat (2 ^ (k % 8)))
  have hgd : bs.getD (k / 8) 0 = z := by rw [List.getD, hz]; rfl
  have e : bits .xor .u8 (z.toNat : Int) (2 ^ (k % 8) % 256) = ((z ^^^ UInt8.ofNat (2 ^ (k % 8))).toNat : Int) := by
    rw [show ((2 : Int) ^ (k % 8)) = ((2 ^ (k % 8) : Nat) : Int) from by simp]
    generalize (2 : Nat) ^ (k % 8) = P at h2 ⊢
    rw [show ((P : Nat) : Int) % 256 = ((P : Nat) : Int) from by omega]
    rw [u8_xor_nat _ _ z.toNat_lt h2, UInt8.toNat_xor, UInt8.toNat_ofNat', Nat.mod_eq_of_lt h2]
  rw [hgd] at h3
  unfold byteV at h3
  rw [e]
  unfold flipB
  rw [hgd]
  exact h3

/-- The places of the bits that are turned. -/
def bitsL (N : Nat) (l : List Int) : List Nat := (l.filter (fun z => decide (0 ≤ z))).map (fun z => (z % ((8 * N : Nat) : Int)).toNat)
theorem bitsL_length (N : Nat) (l : List Int) : (bitsL N l).length ≤ l.length := by unfold bitsL; rw [List.length_map]; exact List.length_filter_le ..
theorem bitsL_lt {N : Nat} (hN : 0 < N) (l : List Int) : ∀ k ∈ bitsL N l, k < 8 * N := by
  intro k hk
  obtain ⟨z, hz, rfl⟩ := List.mem_map.1 hk
  have h1 := Int.emod_nonneg z (show ((8 * N : Nat) : Int) ≠ 0 by omega)
  have h2 := Int.emod_lt_of_pos z (show (0 : Int) < ((8 * N : Nat) : Int) by omega)
  omega
theorem bitsL_succ (N : Nat) (l : List Int) {n : Nat} {z : Int} (h : l[n]? = some z) : bitsL N (l.take (n + 1)) = bitsL N (l.take n) ++ if 0 ≤ z then [(z % ((8 * N : Nat) : Int)).toNat] else [] := by
  unfold bitsL
  rw [List.take_add_one, h, Option.toList_some, List.filter_append, List.map_append]
  congr 1
  by_cases hz : 0 ≤ z
  · rw [if_pos hz]; simp [hz]
  · rw [if_neg hz]; simp [hz]
/-- The places that a pattern turns, up to n bits. -/
def burstN (N at' pat n : Nat) : List Nat := ((List.range n).filter fun i => decide (at' + i < 8 * N) && pat.testBit i).map (at' + ·)
theorem burstN_all (N at' pat : Nat) : burstN N at' pat 32 = (burstL N at' pat).map (at' + ·) := rfl
theorem burstN_succ (N at' pat n : Nat) : burstN N at' pat (n + 1) = burstN N at' pat n ++ if at' + n < 8 * N ∧ pat.testBit n = true then [at' + n] else [] := by
  unfold burstN
  rw [List.range_succ, List.filter_append, List.map_append]
  congr 1
  by_cases h : at' + n < 8 * N ∧ pat.testBit n = true
  · rw [if_pos h]; simp [h]
  · rw [if_neg h]
    by_cases h1 : at' + n < 8 * N
    · have h2 : pat.testBit n = false := by cases hb : pat.testBit n <;> simp_all
      simp [h2]
    · simp [h1]

end Go.Proofs.YtgaidmohdhaonaaDoor

namespace Go.Proofs.YtgaidmohdhaonaaDoor
set_option linter.unusedVariables false
set_option linter.unusedSimpArgs false
open Go

section
variable {H : Type}
theorem bulkT_pos (d : DataW H) : 1 ≤ Rows.uptoBulk d := by
  cases d with
  | lit l => cases l <;> simp [Rows.uptoBulk]
  | nil => simp [Rows.uptoBulk]
  | ptr d => simp [Rows.uptoBulk]
  | slice a b => simp [Rows.uptoBulk]
  | agg a => simp [Rows.uptoBulk]
  | iface t d => simp [Rows.uptoBulk]
  | map e => simp [Rows.uptoBulk]
  | held p => simp [Rows.uptoBulk]
theorem bulkT_mem {d : DataW H} : ∀ {l : List (DataW H)}, d ∈ l → Rows.uptoBulk d ≤ Rows.uptoBulkAll l
  | x :: r, h => by
    simp only [Rows.uptoBulkAll]
    rcases List.mem_cons.1 h with rfl | h
    · omega
    · have := bulkT_mem h; omega
theorem bulkT_length : ∀ (l : List (DataW H)), l.length ≤ Rows.uptoBulkAll l
  | [] => by simp
  | x :: r => by
    have h1 := bulkT_pos x
    have h2 := bulkT_length r
    simp only [Rows.uptoBulkAll, List.length_cons]
    omega
end
end Go.Proofs.YtgaidmohdhaonaaDoor
