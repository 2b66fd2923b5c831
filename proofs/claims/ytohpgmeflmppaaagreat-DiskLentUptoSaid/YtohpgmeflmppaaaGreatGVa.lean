/-
  What comes in: a slice of bytes, a slice of ints, a slice of acts, opened into plain lists; the law's own knob and layout.
-/
import Derived.Test.YtohpgmeflmppaaaGreatGG
import Derived.Test.YtohpgmeflmppaaaGreatRows
import Derived.WalkKit
import Derived.ProofKit
import Derived.OpenShut
import Derived.ShutString
import Derived.ChangeOld
import Derived.Below
import Derived.Deep.Slices
import Derived.Lib.SmallJoins
namespace Go.Proofs.YtohpgmeflmppaaaGreat
set_option linter.unusedVariables false
set_option linter.unusedSimpArgs false
set_option linter.unnecessarySimpa false
set_option linter.unusedSectionVars false
open Go Go.ChangeShapes Go.WideShapes Go.ChangeAt Go.RowKit
open Go.ChangeMaps (open_string shut_string)

theorem own : ownKnob Tryz.prog.godebug = none := by kernel_rfl
theorem laidOut : laidOutB Tryz.prog = true := by kernel_rfl

section
variable {H : Type} {enc : TypeId × Value → H} {W : World} {base : Nat}

theorem block_lt {w : World} {a : Addr} {v : Value} (h : w.cell? a = some v) : a.block < w.heap.size := by
  cases hb : w.heap[a.block]? with
  | none => simp [World.cell?, hb] at h
  | some o => exact lt_of_heap hb

/-- A slice of bytes that was read. -/
theorem open_bytes {fuel : Nat} {v : Value} {x : DataW H × List MemPlace} (h : DataW.trod enc Tryz.prog W 0 (fun _ => true) true fuel 38 [v] = some x) :
    ∃ bs, BytesAt W v bs ∧ (∀ a l c, v = .slice (some a) l c → 0 < l → a.block < W.heap.size) ∧ ∀ o l c, v = .slice o l c → l ≤ c ∧ c ≤ maxLen := by
  rcases open_ints Tryz.underlying38 Tryz.underlying5 (by kernel_rfl) h with ⟨hcs, _⟩ | ⟨a, len, cap, zs, hcs, _, hl, hm, hz, _, hcell, hwz⟩
  · obtain rfl : v = .slice none 0 0 := by simpa using hcs
    exact ⟨[], ⟨none, 0, rfl, fun _ => ⟨rfl, rfl⟩, fun a h => by cases h⟩, fun a l c h => (by cases h), fun o l c h => by injection h with _ h2 h3; omega⟩
  · obtain rfl : v = .slice (some a) len cap := by simpa using hcs
    simp only [if_true] at hz
    refine ⟨(zs.take len).map fun n => UInt8.ofNat n.toNat, ⟨some a, cap, by simp; omega, (fun h => by cases h), fun a' ha j u hu => ?_⟩, fun a' l c h h0 => ?_, fun o l c h => by injection h with _ h2 h3; omega⟩
    · cases ha
      rw [List.getElem?_map, List.getElem?_map, List.getElem?_take] at hu
      split at hu
      · rename_i hj
        have hj' : j < zs.length := by omega
        rw [List.getElem?_eq_getElem hj'] at hu
        simp only [Option.map_some, Option.some.injEq] at hu
        have hb := range_u8 hwz j
        have e : zs.getD j 0 = zs[j] := by simp [List.getD, List.getElem?_eq_getElem hj']
        have hc := hcell j hj'
        rw [e] at hc
        rw [List.getElem?_eq_getElem hj', Option.getD_some] at hb
        rw [hc, ← hu]
        unfold byteV
        congr 2
        simp only [UInt8.toNat_ofNat']
        omega
      · cases hu
    · injection h with h1 h2 h3
      injection h1 with h1
      subst h1 h2 h3
      have := block_lt (hcell 0 (by omega))
      have hab : (a.add 0).block = a.block := by unfold Addr.add; split <;> rfl
      rw [hab] at this
      exact this

/-- A slice of ints that was read. -/
theorem open_intsAt {fuel : Nat} {v : Value} {x : DataW H × List MemPlace} (h : DataW.trod enc Tryz.prog W 0 (fun _ => true) true fuel 39 [v] = some x) :
    ∃ zs, IntsAt W v zs ∧ (∀ a l c, v = .slice (some a) l c → 0 < l → a.block < W.heap.size) := by
  rcases open_ints Tryz.underlying39 Tryz.underlying3 (by kernel_rfl) h with ⟨hcs, _⟩ | ⟨a, len, cap, zs, hcs, _, hl, hm, hz, _, hcell, hwz⟩
  · obtain rfl : v = .slice none 0 0 := by simpa using hcs
    exact ⟨[], ⟨none, 0, rfl, by simp, fun k hk => by simp at hk⟩, fun a l c h => (by cases h)⟩
  · obtain rfl : v = .slice (some a) len cap := by simpa using hcs
    simp only [if_true] at hz
    have hlen : (zs.take len).length = len := by simp; omega
    have hm' : cap ≤ 9223372036854775807 := by simpa [maxLen] using Nat.le_trans hm (by decide : maxLen ≤ maxLen)
    refine ⟨zs.take len, ⟨some a, cap, by rw [hlen], by omega, fun k hk => ⟨a, rfl, World.cell?_spot (by simpa [Addr.add] using hcell 0 (by omega)), fun j hj => ?_⟩⟩, fun a' l c h h0 => ?_⟩
    · have hs : a.spot = none := World.cell?_spot (by simpa [Addr.add] using hcell 0 (by omega))
      obtain ⟨b, o, sp⟩ := a
      simp only at hs
      subst hs
      have hj' : j < zs.length := by omega
      have := hcell j hj'
      rw [Addr.add_lit] at this
      rw [this]
      congr 2
      simp [List.getD, List.getElem?_eq_getElem hj']
    · injection h with h1 h2 h3
      injection h1 with h1
      subst h1 h2 h3
      have := block_lt (hcell 0 (by omega))
      have hab : (a.add 0).block = a.block := by unfold Addr.add; split <;> rfl
      rw [hab] at this
      exact this

theorem cells4 {cs : List Value} (h : cs.length = 4) : ∃ c0 c1 c2 c3, cs = [c0, c1, c2, c3] := by
  match cs, h with
  | [c0, c1, c2, c3], _ => exact ⟨c0, c1, c2, c3, rfl⟩

end
end Go.Proofs.YtohpgmeflmppaaaGreat
