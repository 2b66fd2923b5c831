/-
  What comes in: a slice of files, opened into a plain list; each part is no longer than the bulk of the whole.
-/
import Derived.Test.YtohpgmeflmppaaaGreatGVa
import Derived.Test.YtohpgmeflmppaaaGreatGH
import Derived.Deep.Strs
namespace Go.Proofs.YtohpgmeflmppaaaGreat
set_option linter.unusedVariables false
set_option linter.unusedSimpArgs false
set_option linter.unnecessarySimpa false
set_option linter.unusedSectionVars false
open Go Go.ChangeShapes Go.WideShapes Go.ChangeAt Go.RowKit
open Go.ChangeMaps (open_string shut_string)

section
variable {H : Type} {enc : TypeId × Value → H} {W : World} {base : Nat}

theorem bulk_pos (d : DataW H) : 1 ≤ Rows.uptoBulk d := by
  cases d with
  | lit l => cases l <;> simp [Rows.uptoBulk]
  | nil => simp [Rows.uptoBulk]
  | ptr d => simp [Rows.uptoBulk]
  | slice a b => simp [Rows.uptoBulk]
  | agg a => simp [Rows.uptoBulk]
  | iface t d => simp [Rows.uptoBulk]
  | map e => simp [Rows.uptoBulk]
  | held h => simp [Rows.uptoBulk]

theorem bulk_mem {d : DataW H} : ∀ {l : List (DataW H)}, d ∈ l → Rows.uptoBulk d ≤ Rows.uptoBulkAll l
  | x :: r, h => by
    simp only [Rows.uptoBulkAll]
    rcases List.mem_cons.1 h with rfl | h
    · omega
    · have := bulk_mem h; omega

theorem bulk_length : ∀ (l : List (DataW H)), l.length ≤ Rows.uptoBulkAll l
  | [] => by simp
  | x :: r => by
    have h1 := bulk_pos x
    have h2 := bulk_length r
    simp only [Rows.uptoBulkAll, List.length_cons]
    omega

/-- A slice of bytes: how many there are. -/
theorem open_bytes_bulk {fuel : Nat} {v : Value} {x : DataW H × List MemPlace} (h : DataW.trod enc Tryz.prog W 0 (fun _ => true) true fuel 38 [v] = some x) {bs : List UInt8} (hb : BytesAt W v bs) : bs.length ≤ Rows.uptoBulk x.1 := by
  obtain ⟨ao, cap, hv, hn, -⟩ := hb
  rcases open_ints Tryz.underlying38 Tryz.underlying5 (by kernel_rfl) h with ⟨hcs, rfl⟩ | ⟨a, len, cap', zs, hcs, _, hl, hm, hz, rfl, hcell, hwz⟩
  · rw [hv] at hcs
    simp only [List.cons.injEq, Value.slice.injEq, and_true] at hcs
    omega
  · rw [hv] at hcs
    simp only [List.cons.injEq, Value.slice.injEq, and_true] at hcs
    simp only [if_true] at hz
    have h1 := bulk_length (lits (H := H) .u8 (zs.take len))
    have h2 : (lits (H := H) .u8 (zs.take len)).length = len := by simp [lits]; omega
    simp only [Rows.uptoBulk]
    omega

theorem cells3 {cs : List Value} (h : cs.length = 3) : ∃ c0 c1 c2, cs = [c0, c1, c2] := by
  match cs, h with
  | [c0, c1, c2], _ => exact ⟨c0, c1, c2, rfl⟩

/-- One file that was read. -/
theorem open_file {n : Nat} {cs : List Value} {x : DataW H × List MemPlace} (h : DataW.trod enc Tryz.prog W 0 (fun _ => true) true n 80 cs = some x) :
    ∃ f : FileI, cs = [.string f.name, f.dv, .int .i64 f.synced] ∧ BytesAt W f.dv f.data ∧ (∀ a l c, f.dv = .slice (some a) l c → 0 < l → a.block < W.heap.size) ∧ f.data.length ≤ Rows.uptoBulk x.1 := by
  obtain ⟨y0, y1, y2, m, rfl, hl, h0, h1, h2⟩ := Go.Deep.trod_struct3 Tryz.underlying80 h
  have hl3 : cs.length = 3 := hl.trans (by kernel_rfl)
  obtain ⟨c0, c1, c2, rfl⟩ := cells3 hl3
  have cs0 : Tryz.prog.cellsOf 9 = 1 := by kernel_rfl
  have ci : Tryz.prog.cellsOf 3 = 1 := by kernel_rfl
  have cb : Tryz.prog.cellsOf 38 = 1 := by kernel_rfl
  have h0' : DataW.trod enc Tryz.prog W 0 (fun _ => true) true m 9 [c0] = some y0 := by simpa [cs0] using h0
  have h1' : DataW.trod enc Tryz.prog W 0 (fun _ => true) true m 38 [c1] = some y1 := by simpa [cb] using h1
  have h2' : DataW.trod enc Tryz.prog W 0 (fun _ => true) true m 3 [c2] = some y2 := by simpa [ci] using h2
  obtain ⟨s, e0, -, -⟩ := DataW.trod_string Tryz.underlying9 h0'
  obtain ⟨n2, e2, -, -⟩ := DataW.trod_int Tryz.underlying3 h2'
  obtain ⟨bs, hb, hlow, -⟩ := open_bytes h1'
  have hbk := open_bytes_bulk h1' hb
  simp only [List.cons.injEq, and_true] at e0 e2
  subst e0 e2
  refine ⟨⟨s, c1, bs, n2⟩, rfl, hb, hlow, ?_⟩
  have h3 := bulk_mem (d := y1.1) (l := [y0.1, y1.1, y2.1]) (by simp)
  simp only [Rows.uptoBulk]
  omega

/-- A slice of files that was read. -/
theorem open_files {fuel : Nat} {v : Value} {x : DataW H × List MemPlace} (h : DataW.trod enc Tryz.prog W 0 (fun _ => true) true fuel 40 [v] = some x) : ∃ l, FilesIn W v l ∧ l.length ≤ Rows.uptoBulk x.1 ∧ ∀ f ∈ l, f.data.length ≤ Rows.uptoBulk x.1 := by
  rcases Go.Deep.open_slice Tryz.underlying40 h with ⟨hcs, rfl⟩ | ⟨a, len, cap, m, n, D, Pl, hcs, _, hl, hm, hmm, rfl, hx⟩
  · obtain rfl : v = .slice none 0 0 := by simpa using hcs
    exact ⟨[], ⟨⟨none, 0, rfl, by simp, by simp, fun k hk => by simp at hk⟩, by simp, by simp⟩, by simp, by simp⟩
  · obtain rfl : v = .slice (some a) len cap := by simpa using hcs
    simp only [if_true] at hmm
    have hm' : cap ≤ 9223372036854775807 := by simpa [maxLen] using hm
    have hsz : Tryz.prog.cellsOf 80 = 3 := by kernel_rfl
    rw [hsz] at hx
    have hall : ∀ i, i < len → ∃ f : FileI, (∀ j, j < 3 → W.cell? ((a.add (i * 3)).add j) = [Value.string f.name, f.dv, .int .i64 f.synced][j]?) ∧ BytesAt W f.dv f.data ∧ (∀ a l c, f.dv = .slice (some a) l c → 0 < l → a.block < W.heap.size) ∧ f.data.length ≤ Rows.uptoBulk (D i) := by
      intro i hi
      obtain ⟨cs', h1, h2⟩ := hx i (by omega)
      obtain ⟨f, rfl, hb, hlow, hbk⟩ := open_file h2
      exact ⟨f, (World.cells?_some h1).2.2, hb, hlow, hbk⟩
    haveI : Inhabited FileI := ⟨⟨ByteArray.empty, .nilIface, [], 0⟩⟩
    obtain ⟨F, hF⟩ := Go.Deep.choose_lt hall
    have hel : Rows.uptoBulkAll ((List.range len).map D) + 1 ≤ Rows.uptoBulk (DataW.slice ((List.range len).map D) ((List.range (m - len)).map fun j => D (len + j))) := by simp only [Rows.uptoBulk]; omega
    refine ⟨(List.range len).map F, ⟨⟨some a, cap, by simp, by simpa using hl, hm', fun k hk => ?_⟩, ?_, ?_⟩, ?_, ?_⟩
    · have hk' : k < len := by simpa using hk
      obtain ⟨hc, -, -⟩ := hF k hk'
      have s0 := hc 0 (by omega); have s1 := hc 1 (by omega); have s2 := hc 2 (by omega)
      have hs : a.spot = none := by
        have := World.cell?_spot ((hF 0 (by omega)).1 0 (by omega))
        simpa [Addr.add] using this
      obtain ⟨b, o, sp⟩ := a
      simp only at hs
      subst hs
      rw [Go.Deep.add_add, Addr.add_lit] at s0 s1 s2
      have hlt := block_lt s0
      refine ⟨b, o, rfl, hlt, ?_⟩
      simp only [List.getElem_map, List.getElem_range]
      exact ⟨by simpa using s0, by simpa [Nat.add_assoc] using s1, by simpa [Nat.add_assoc] using s2⟩
    · intro x hx
      obtain ⟨i, hi, rfl⟩ := List.mem_map.1 hx
      exact (hF i (by simpa using hi)).2.1
    · intro x hx
      obtain ⟨i, hi, rfl⟩ := List.mem_map.1 hx
      exact (hF i (by simpa using hi)).2.2.1
    · have h1 := bulk_length ((List.range len).map D)
      simp at h1 ⊢
      omega
    · intro x hx
      obtain ⟨i, hi, rfl⟩ := List.mem_map.1 hx
      have hi' : i < len := by simpa using hi
      have h1 := (hF i hi').2.2.2
      have h2 := bulk_mem (d := D i) (l := (List.range len).map D) (List.mem_map.2 ⟨i, by simpa using hi', rfl⟩)
      show _ ≤ Rows.uptoBulk (DataW.slice _ _)
      omega

end
end Go.Proofs.YtohpgmeflmppaaaGreat
