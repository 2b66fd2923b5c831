/-
  What comes in: a list of versions, a list of ints, opened into plain data.
-/
import Derived.Test.YtgaidmohdhaonaaGreatDoorZB
import Derived.Test.YtgaidmohdhaonaaGreatDoorSB
namespace Go.Proofs.YtgaidmohdhaonaaGreatDoor
set_option linter.unusedVariables false
set_option linter.unusedSimpArgs false
set_option linter.unnecessarySimpa false
set_option linter.unusedSectionVars false
open Go Go.ChangeShapes Go.WideShapes Go.ChangeAt Go.RowKit

section
variable {H : Type} {enc : TypeId × Value → H} {W : World} {base : Nat}

/-- A list of ints that was read. -/
theorem open_intsV {fuel : Nat} {v : Value} {x : DataW H × List MemPlace} (h : DataW.trod enc Tryz.prog W 0 (fun _ => true) true fuel 77 [v] = some x) :
    ∃ zs, IntsAt W v zs ∧ (∀ n ∈ zs, I64 n) ∧ (∀ a l c, v = .slice (some a) l c → 0 < l → a.block < W.heap.size) := by
  rcases open_ints Tryz.underlying77 Tryz.underlying3 (by kernel_rfl) h with ⟨hcs, _⟩ | ⟨a, len, cap, zs, hcs, _, hl, hm, hz, _, hcell, hwz⟩
  · obtain rfl : v = .slice none 0 0 := by simpa using hcs
    exact ⟨[], ⟨none, 0, rfl, by simp, fun k hk => by simp at hk⟩, (fun n hn => by cases hn), fun a l c h => (by cases h)⟩
  · obtain rfl : v = .slice (some a) len cap := by simpa using hcs
    simp only [if_true] at hz
    have hlen : (zs.take len).length = len := by simp; omega
    have hm' : cap ≤ 9223372036854775807 := by simpa [maxLen] using Nat.le_trans hm (by decide : maxLen ≤ maxLen)
    refine ⟨zs.take len, ⟨some a, cap, by rw [hlen], by omega, fun k hk => ⟨a, rfl, World.cell?_spot (by simpa [Addr.add] using hcell 0 (by omega)), fun j hj => ?_⟩⟩, fun n hn => ?_, fun a' l c h h0 => ?_⟩
    · have hs : a.spot = none := World.cell?_spot (by simpa [Addr.add] using hcell 0 (by omega))
      obtain ⟨b, o, sp⟩ := a
      simp only at hs
      subst hs
      have hj' : j < zs.length := by omega
      have := hcell j hj'
      rw [Addr.add_lit] at this
      rw [this]
      congr 2
      simp [List.getD, List.getElem?_eq_getElem hj']
    · exact bounds_i64 (hwz n (List.mem_of_mem_take hn))
    · injection h with h1 h2 h3
      injection h1 with h1
      subst h1 h2 h3
      have := block_lt (hcell 0 (by omega))
      have hab : (a.add 0).block = a.block := by unfold Addr.add; split <;> rfl
      rw [hab] at this
      exact this

set_option maxRecDepth 100000 in
/-- A list of versions that was read. -/
theorem open_vers {fuel : Nat} {v : Value} {x : DataW H × List MemPlace} (h : DataW.trod enc Tryz.prog W 0 (fun _ => true) true fuel 76 [v] = some x) (hs : Sized 76 x.1) : ∃ l, VersAt W v l ∧ ∀ r ∈ l, VerIn r := by
  rcases Go.Deep.open_slice Tryz.underlying76 h with ⟨hcs, _⟩ | ⟨a, len, cap, m, n, D, Pl, hcs, _, hl, hm, hmm, rfl, hx⟩
  · obtain rfl : v = .slice none 0 0 := by simpa using hcs
    exact ⟨[], ⟨none, 0, rfl, by simp, by simp, fun k hk => by simp at hk⟩, by simp⟩
  · obtain rfl : v = .slice (some a) len cap := by simpa using hcs
    simp only [if_true] at hmm
    have hm' : cap ≤ 9223372036854775807 := by simpa [maxLen] using hm
    have hsz : Tryz.prog.cellsOf 25 = 7 := by kernel_rfl
    rw [hsz] at hx
    have hsd : ∀ i, i < len → Sized 25 (D i) := by
      intro i hi q hq
      refine hs q ?_
      simp only [DataW.weights, Tryz.underlying76, List.mem_cons, List.mem_append]
      exact .inr (.inl (weightsAll_mem (List.mem_map.2 ⟨i, by simpa using hi, rfl⟩) q hq))
    have hall : ∀ i, i < len → ∃ q : VerA × (Option Addr × Nat) × (Option Addr × Nat), (∀ j, j < 7 → W.cell? ((a.add (i * 7)).add j) = [Value.int .i64 q.1.gen, .int .i64 q.1.flushed, .int .i64 q.1.next, .int .i64 q.1.low, .int .i64 q.1.clock, .slice q.2.1.1 q.1.state.length q.2.1.2, .slice q.2.2.1 q.1.runs.length q.2.2.2][j]?) ∧
        BAt W (.slice q.2.1.1 q.1.state.length q.2.1.2) q.1.state ∧ RunsAt W (.slice q.2.2.1 q.1.runs.length q.2.2.2) q.1.runs ∧ VerIn q.1 := by
      intro i hi
      obtain ⟨cs', h1, h2⟩ := hx i (by omega)
      obtain ⟨y, ⟨s1, d1, s2, d2, hcs2, hb1, hb2⟩, hin⟩ := open_ver h2 (hsd i hi)
      have hcs3 : cs' = [Value.int .i64 y.gen, .int .i64 y.flushed, .int .i64 y.next, .int .i64 y.low, .int .i64 y.clock, .slice s1 y.state.length d1, .slice s2 y.runs.length d2] := by
        injection hcs2 with hcs2
        have := congrArg Array.toList hcs2
        simpa using this
      subst hcs3
      exact ⟨(y, (s1, d1), (s2, d2)), (World.cells?_some h1).2.2, hb1, hb2, hin⟩
    haveI : Inhabited (VerA × (Option Addr × Nat) × (Option Addr × Nat)) := ⟨(zeroVer, (none, 0), (none, 0))⟩
    obtain ⟨F, hF⟩ := Go.Deep.choose_lt hall
    refine ⟨(List.range len).map fun i => (F i).1, ⟨some a, cap, by simp, by simpa using hl, hm', fun k hk => ?_⟩, ?_⟩
    · have hk' : k < len := by simpa using hk
      obtain ⟨hc, hb1, hb2, -⟩ := hF k hk'
      have s0 := hc 0 (by omega); have s1 := hc 1 (by omega); have s2 := hc 2 (by omega); have s3 := hc 3 (by omega)
      have s4 := hc 4 (by omega); have s5 := hc 5 (by omega); have s6 := hc 6 (by omega)
      have hsp : a.spot = none := by
        have := World.cell?_spot ((hF 0 (by omega)).1 0 (by omega))
        simpa [Addr.add] using this
      obtain ⟨b, o, sp⟩ := a
      simp only at hsp
      subst hsp
      rw [Go.Deep.add_add, Addr.add_lit] at s0 s1 s2 s3 s4 s5 s6
      have hlt := block_lt s0
      refine ⟨b, o, (F k).2.1.1, (F k).2.1.2, (F k).2.2.1, (F k).2.2.2, rfl, hlt, ?_⟩
      simp only [List.getElem_map, List.getElem_range]
      exact ⟨by simpa using s0, by simpa [Nat.add_assoc] using s1, by simpa [Nat.add_assoc] using s2, by simpa [Nat.add_assoc] using s3, by simpa [Nat.add_assoc] using s4, by simpa [Nat.add_assoc] using s5, by simpa [Nat.add_assoc] using s6, hb1, hb2⟩
    · intro r hr
      obtain ⟨i, hi, rfl⟩ := List.mem_map.1 hr
      exact (hF i (by simpa using hi)).2.2.2

end
end Go.Proofs.YtgaidmohdhaonaaGreatDoor
