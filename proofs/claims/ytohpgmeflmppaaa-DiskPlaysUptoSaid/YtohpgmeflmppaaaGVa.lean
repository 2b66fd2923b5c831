/-
  What comes in: a slice of bytes, a slice of ints, a slice of acts, opened into plain lists; the law's own knob and layout.
-/
import Derived.Test.YtohpgmeflmppaaaGG
import Derived.Test.YtohpgmeflmppaaaRows
import Derived.WalkKit
import Derived.ProofKit
import Derived.OpenShut
import Derived.ShutString
import Derived.ChangeOld
import Derived.Below
import Derived.Deep.Slices
import Derived.Lib.SmallJoins
namespace Go.Proofs.Ytohpgmeflmppaaa
set_option linter.unusedVariables false
set_option linter.unusedSimpArgs false
set_option linter.unnecessarySimpa false
set_option linter.unusedSectionVars false
open Go Go.ChangeShapes Go.WideShapes Go.ChangeAt Go.RowKit
open Go.ChangeMaps (open_string shut_string)

theorem own : ownKnob Try.prog.godebug = none := by kernel_rfl
theorem laidOut : laidOutB Try.prog = true := by kernel_rfl

section
variable {H : Type} {enc : TypeId × Value → H} {W : World} {base : Nat}

theorem block_lt {w : World} {a : Addr} {v : Value} (h : w.cell? a = some v) : a.block < w.heap.size := by
  cases hb : w.heap[a.block]? with
  | none => simp [World.cell?, hb] at h
  | some o => exact lt_of_heap hb

/-- A slice of bytes that was read. -/
theorem open_bytes {fuel : Nat} {v : Value} {x : DataW H × List MemPlace} (h : DataW.trod enc Try.prog W 0 (fun _ => true) true fuel 30 [v] = some x) :
    ∃ bs, BytesAt W v bs ∧ (∀ a l c, v = .slice (some a) l c → 0 < l → a.block < W.heap.size) ∧ ∀ o l c, v = .slice o l c → l ≤ c ∧ c ≤ maxLen := by
  rcases open_ints Try.underlying30 Try.underlying5 (by kernel_rfl) h with ⟨hcs, _⟩ | ⟨a, len, cap, zs, hcs, _, hl, hm, hz, _, hcell, hwz⟩
  · obtain rfl : v = .slice none 0 0 := by simpa using hcs
    exact ⟨[], ⟨none, 0, rfl, fun _ => ⟨rfl, rfl⟩, fun a h => by cases h⟩, fun a l c h => (by cases h), fun o l c h => by injection h with _ h2 h3; omega⟩
  · obtain rfl : v = .slice (some a) len cap := by simpa using hcs
    simp only [if_true] at hz
    refine ⟨(zs.take len).map fun n => UInt8.ofNat n.toNat, ⟨some a, cap, by simp; omega, (fun h => by cases h), fun a' ha j u hu => ?_⟩, fun a' l c h h0 => ?_, fun o l c h => by injection h with _ h2 h3; omega⟩
    · cases ha
      rw [List.getElem?_map, List.getElem?_map, List.getElem?_take] at hu
      split at hu
      · rename_i hj
        have hj' : j < zs.length := by omega
        rw [List.getElem?_eq_getElem hj'] at hu
        simp only [Option.map_some, Option.some.injEq] at hu
        have hb := range_u8 hwz j
        have e : zs.getD j 0 = zs[j] := by simp [List.getD, List.getElem?_eq_getElem hj']
        have hc := hcell j hj'
        rw [e] at hc
        rw [List.getElem?_eq_getElem hj', Option.getD_some] at hb
        rw [hc, ← hu]
        unfold byteV
        congr 2
        simp only [UInt8.toNat_ofNat']
        omega
      · cases hu
    · injection h with h1 h2 h3
      injection h1 with h1
      subst h1 h2 h3
      have := block_lt (hcell 0 (by omega))
      have hab : (a.add 0).block = a.block := by unfold Addr.add; split <;> rfl
      rw [hab] at this
      exact this

/-- A slice of ints that was read. -/
theorem open_intsAt {fuel : Nat} {v : Value} {x : DataW H × List MemPlace} (h : DataW.trod enc Try.prog W 0 (fun _ => true) true fuel 41 [v] = some x) :
    ∃ zs, IntsAt W v zs ∧ (∀ a l c, v = .slice (some a) l c → 0 < l → a.block < W.heap.size) := by
  rcases open_ints Try.underlying41 Try.underlying3 (by kernel_rfl) h with ⟨hcs, _⟩ | ⟨a, len, cap, zs, hcs, _, hl, hm, hz, _, hcell, hwz⟩
  · obtain rfl : v = .slice none 0 0 := by simpa using hcs
    exact ⟨[], ⟨none, 0, rfl, by simp, fun k hk => by simp at hk⟩, fun a l c h => (by cases h)⟩
  · obtain rfl : v = .slice (some a) len cap := by simpa using hcs
    simp only [if_true] at hz
    have hlen : (zs.take len).length = len := by simp; omega
    have hm' : cap ≤ 9223372036854775807 := by simpa [maxLen] using Nat.le_trans hm (by decide : maxLen ≤ maxLen)
    refine ⟨zs.take len, ⟨some a, cap, by rw [hlen], by omega, fun k hk => ⟨a, rfl, World.cell?_spot (by simpa [Addr.add] using hcell 0 (by omega)), fun j hj => ?_⟩⟩, fun a' l c h h0 => ?_⟩
    · have hs : a.spot = none := World.cell?_spot (by simpa [Addr.add] using hcell 0 (by omega))
      obtain ⟨b, o, sp⟩ := a
      simp only at hs
      subst hs
      have hj' : j < zs.length := by omega
      have := hcell j hj'
      rw [Addr.add_lit] at this
      rw [this]
      congr 2
      simp [List.getD, List.getElem?_eq_getElem hj']
    · injection h with h1 h2 h3
      injection h1 with h1
      subst h1 h2 h3
      have := block_lt (hcell 0 (by omega))
      have hab : (a.add 0).block = a.block := by unfold Addr.add; split <;> rfl
      rw [hab] at this
      exact this

theorem cells4 {cs : List Value} (h : cs.length = 4) : ∃ c0 c1 c2 c3, cs = [c0, c1, c2, c3] := by
  match cs, h with
  | [c0, c1, c2, c3], _ => exact ⟨c0, c1, c2, c3, rfl⟩

/-- One act that was read. -/
theorem open_did {n : Nat} {cs : List Value} {x : DataW H × List MemPlace} (h : DataW.trod enc Try.prog W 0 (fun _ => true) true n 32 cs = some x) :
    ∃ d : DidA, cs = [.int .i64 d.kind, .int .i64 d.file, .int .i64 d.to, d.bv] ∧ BytesAt W d.bv d.b ∧ (∀ a l c, d.bv = .slice (some a) l c → 0 < l → a.block < W.heap.size) := by
  obtain ⟨y0, y1, y2, y3, m, -, hl, h0, h1, h2, h3⟩ := Go.Joins.trod_struct4 Try.underlying32 h
  have hl4 : cs.length = 4 := hl.trans (by kernel_rfl)
  obtain ⟨c0, c1, c2, c3, rfl⟩ := cells4 hl4
  have ci : Try.prog.cellsOf 3 = 1 := by kernel_rfl
  have cb : Try.prog.cellsOf 30 = 1 := by kernel_rfl
  have h0' : DataW.trod enc Try.prog W 0 (fun _ => true) true m 3 [c0] = some y0 := by simpa [ci] using h0
  have h1' : DataW.trod enc Try.prog W 0 (fun _ => true) true m 3 [c1] = some y1 := by simpa [ci] using h1
  have h2' : DataW.trod enc Try.prog W 0 (fun _ => true) true m 3 [c2] = some y2 := by simpa [ci] using h2
  have h3' : DataW.trod enc Try.prog W 0 (fun _ => true) true m 30 [c3] = some y3 := by simpa [cb] using h3
  obtain ⟨n0, e0, -, -⟩ := DataW.trod_int Try.underlying3 h0'
  obtain ⟨n1, e1, -, -⟩ := DataW.trod_int Try.underlying3 h1'
  obtain ⟨n2, e2, -, -⟩ := DataW.trod_int Try.underlying3 h2'
  obtain ⟨bs, hb, hlow, -⟩ := open_bytes h3'
  simp only [List.cons.injEq, and_true] at e0 e1 e2
  subst e0 e1 e2
  exact ⟨⟨n0, n1, n2, bs, c3⟩, rfl, hb, hlow⟩

/-- A slice of acts that was read. -/
theorem open_dids {fuel : Nat} {v : Value} {x : DataW H × List MemPlace} (h : DataW.trod enc Try.prog W 0 (fun _ => true) true fuel 22 [v] = some x) : ∃ l, DidsAt W v l := by
  rcases Go.Deep.open_slice Try.underlying22 h with ⟨hcs, _⟩ | ⟨a, len, cap, m, n, D, Pl, hcs, _, hl, hm, hmm, _, hx⟩
  · obtain rfl : v = .slice none 0 0 := by simpa using hcs
    exact ⟨[], ⟨none, 0, rfl, by simp, by simp, fun k hk => by simp at hk⟩, by simp, by simp⟩
  · obtain rfl : v = .slice (some a) len cap := by simpa using hcs
    simp only [if_true] at hmm
    have hm' : cap ≤ 9223372036854775807 := by simpa [maxLen] using hm
    have hsz : Try.prog.cellsOf 32 = 4 := by kernel_rfl
    rw [hsz] at hx
    have hall : ∀ i, i < len → ∃ d : DidA, (∀ j, j < 4 → W.cell? ((a.add (i * 4)).add j) = [Value.int .i64 d.kind, .int .i64 d.file, .int .i64 d.to, d.bv][j]?) ∧ BytesAt W d.bv d.b ∧ (∀ a l c, d.bv = .slice (some a) l c → 0 < l → a.block < W.heap.size) := by
      intro i hi
      obtain ⟨cs', h1, h2⟩ := hx i (by omega)
      obtain ⟨d, rfl, hb, hlow⟩ := open_did h2
      exact ⟨d, (World.cells?_some h1).2.2, hb, hlow⟩
    haveI : Inhabited DidA := ⟨⟨0, 0, 0, [], .nilIface⟩⟩
    obtain ⟨F, hF⟩ := Go.Deep.choose_lt hall
    refine ⟨(List.range len).map F, ⟨some a, cap, by simp, by simpa using hl, hm', fun k hk => ?_⟩, ?_, ?_⟩
    · have hk' : k < len := by simpa using hk
      obtain ⟨hc, -, -⟩ := hF k hk'
      have s0 := hc 0 (by omega); have s1 := hc 1 (by omega); have s2 := hc 2 (by omega); have s3 := hc 3 (by omega)
      have hs : a.spot = none := by
        have := World.cell?_spot ((hF 0 (by omega)).1 0 (by omega))
        simpa [Addr.add] using this
      obtain ⟨b, o, sp⟩ := a
      simp only at hs
      subst hs
      rw [Go.Deep.add_add, Addr.add_lit] at s0 s1 s2 s3
      have hlt := block_lt s0
      refine ⟨b, o, rfl, hlt, ?_⟩
      simp only [List.getElem_map, List.getElem_range]
      exact ⟨by simpa using s0, by simpa [Nat.add_assoc] using s1, by simpa [Nat.add_assoc] using s2, by simpa [Nat.add_assoc] using s3⟩
    · intro x hx
      obtain ⟨i, hi, rfl⟩ := List.mem_map.1 hx
      exact (hF i (by simpa using hi)).2.1
    · intro x hx
      obtain ⟨i, hi, rfl⟩ := List.mem_map.1 hx
      exact (hF i (by simpa using hi)).2.2

end
end Go.Proofs.Ytohpgmeflmppaaa
