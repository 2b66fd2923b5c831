/-
  What comes in: a slice of calls, opened into a plain list; how much they may make the book grow.
  PROVED HERE: Rows.DiskLentUptoSaid: stratalaw4.DiskLent answers true at every input that fits and is of bulk at most what the given text names, and each argument reads afterwards as it read before.
-/
import Derived.Test.YtohpgmeflmppaaaGreatQI
import Derived.Test.YtohpgmeflmppaaaGreatGVb
import Derived.Test.YtohpgmeflmppaaaGreatQJ
import Derived.JoinedCond
namespace Go.Proofs.YtohpgmeflmppaaaGreat
set_option linter.unusedVariables false
set_option linter.unusedSimpArgs false
set_option linter.unnecessarySimpa false
set_option linter.unusedSectionVars false
open Go Go.ChangeShapes Go.WideShapes Go.ChangeAt Go.RowKit
open Go.ChangeMaps (open_string shut_string)

section
variable {H : Type} {enc : TypeId × Value → H} {W : World} {base : Nat}

/-- A slice of ints: how many there are; none of them is nil with room. -/
theorem open_ints_bulk {fuel : Nat} {v : Value} {x : DataW H × List MemPlace} (h : DataW.trod enc Tryz.prog W 0 (fun _ => true) true fuel 39 [v] = some x) {zs : List Int} (hb : IntsAt W v zs) : zs.length ≤ Rows.uptoBulk x.1 ∧ ∀ l c, v = .slice none l c → c = 0 := by
  obtain ⟨ao, cap, hv, -⟩ := hb
  rcases open_ints Tryz.underlying39 Tryz.underlying3 (by kernel_rfl) h with ⟨hcs, rfl⟩ | ⟨a, len, cap', ys, hcs, _, hl, hm, hz, rfl, hcell, hwz⟩
  · rw [hv] at hcs
    simp only [List.cons.injEq, Value.slice.injEq, and_true] at hcs
    refine ⟨by omega, fun l c e => ?_⟩
    rw [hv] at e
    injection e with _ _ e3
    omega
  · rw [hv] at hcs
    simp only [List.cons.injEq, Value.slice.injEq, and_true] at hcs
    simp only [if_true] at hz
    have h1 := bulk_length (lits (H := H) .i64 (ys.take len))
    have h2 : (lits (H := H) .i64 (ys.take len)).length = len := by simp [lits]; omega
    refine ⟨by simp only [Rows.uptoBulk]; omega, fun l c e => ?_⟩
    rw [hv] at e
    injection e with e1 _ _
    rw [e1] at hcs
    cases hcs.1

theorem cells9 {cs : List Value} (h : cs.length = 9) : ∃ c0 c1 c2 c3 c4 c5 c6 c7 c8, cs = [c0, c1, c2, c3, c4, c5, c6, c7, c8] := by
  match cs, h with
  | [c0, c1, c2, c3, c4, c5, c6, c7, c8], _ => exact ⟨c0, c1, c2, c3, c4, c5, c6, c7, c8, rfl⟩

theorem sum_bulk {l : List Nat} {F : Nat → Nat} {D : Nat → DataW H} (h : ∀ i ∈ l, F i ≤ Rows.uptoBulk (D i)) : (l.map F).sum ≤ Rows.uptoBulkAll (l.map D) := by
  induction l with
  | nil => simp
  | cons a r ih =>
    have h1 := h a (by simp)
    have h2 := ih fun i hi => h i (by simp [hi])
    simp only [List.map_cons, List.sum_cons, Rows.uptoBulkAll]
    omega

theorem mostN_eq (l : List OpI) : mostN l = (l.map fun o => o.files.length).sum + 256 * l.length := by
  induction l with
  | nil => rfl
  | cons a r ih =>
    simp only [mostN, List.map_cons, List.sum_cons, List.length_cons] at ih ⊢
    omega

/-- One call that was read. -/
theorem open_op {n : Nat} {cs : List Value} {x : DataW H × List MemPlace} (h : DataW.trod enc Tryz.prog W 0 (fun _ => true) true n 42 cs = some x) (hbk : Rows.uptoBulk x.1 ≤ 1048576) :
    ∃ o : OpI, cs = o.cells.toList ∧ o.Ok2 W ∧ o.files.length ≤ Rows.uptoBulk x.1 := by
  obtain ⟨xs, m, _, rfl, hl, hlen, hf⟩ := DataW.trod_struct Tryz.underlying42 h
  have hl9 : cs.length = 9 := hl.trans (by kernel_rfl)
  obtain ⟨c0, c1, c2, c3, c4, c5, c6, c7, c8, rfl⟩ := cells9 hl9
  have cs0 : Tryz.prog.cellsOf 9 = 1 := by kernel_rfl
  have ci : Tryz.prog.cellsOf 3 = 1 := by kernel_rfl
  have cb : Tryz.prog.cellsOf 38 = 1 := by kernel_rfl
  have cz : Tryz.prog.cellsOf 39 = 1 := by kernel_rfl
  have cf : Tryz.prog.cellsOf 40 = 1 := by kernel_rfl
  match xs, hlen with
  | [y0, y1, y2, y3, y4, y5, y6, y7, y8], _ =>
    have h0 : DataW.trod enc Tryz.prog W 0 (fun _ => true) true m 3 [c0] = some y0 := by simpa [ci] using hf 0 _ rfl
    have h1 : DataW.trod enc Tryz.prog W 0 (fun _ => true) true m 3 [c1] = some y1 := by simpa [ci] using hf 1 _ rfl
    have h2 : DataW.trod enc Tryz.prog W 0 (fun _ => true) true m 9 [c2] = some y2 := by simpa [cs0] using hf 2 _ rfl
    have h3 : DataW.trod enc Tryz.prog W 0 (fun _ => true) true m 9 [c3] = some y3 := by simpa [cs0] using hf 3 _ rfl
    have h4 : DataW.trod enc Tryz.prog W 0 (fun _ => true) true m 38 [c4] = some y4 := by simpa [cb] using hf 4 _ rfl
    have h5 : DataW.trod enc Tryz.prog W 0 (fun _ => true) true m 3 [c5] = some y5 := by simpa [ci] using hf 5 _ rfl
    have h6 : DataW.trod enc Tryz.prog W 0 (fun _ => true) true m 3 [c6] = some y6 := by simpa [ci] using hf 6 _ rfl
    have h7 : DataW.trod enc Tryz.prog W 0 (fun _ => true) true m 39 [c7] = some y7 := by simpa [cz] using hf 7 _ rfl
    have h8 : DataW.trod enc Tryz.prog W 0 (fun _ => true) true m 40 [c8] = some y8 := by simpa [cf] using hf 8 _ rfl
    obtain ⟨z0, e0, -, -⟩ := DataW.trod_int Tryz.underlying3 h0
    obtain ⟨z1, e1, -, -⟩ := DataW.trod_int Tryz.underlying3 h1
    obtain ⟨s2, e2, -, -⟩ := DataW.trod_string Tryz.underlying9 h2
    obtain ⟨s3, e3, -, -⟩ := DataW.trod_string Tryz.underlying9 h3
    obtain ⟨z5, e5, -, w5⟩ := DataW.trod_int Tryz.underlying3 h5
    obtain ⟨z6, e6, -, w6⟩ := DataW.trod_int Tryz.underlying3 h6
    obtain ⟨bs, hb, hblow, -⟩ := open_bytes h4
    obtain ⟨zs, hz, hzlow⟩ := open_intsAt h7
    obtain ⟨fs, hfs, hfn, hfd⟩ := open_files h8
    obtain ⟨hzn, hznil⟩ := open_ints_bulk h7 hz
    have hbn := open_bytes_bulk h4 hb
    have hall : ∀ y ∈ [y0, y1, y2, y3, y4, y5, y6, y7, y8], Rows.uptoBulk y.1 ≤ 1048576 := fun y hy => by
      have h1 := bulk_mem (d := y.1) (l := [y0, y1, y2, y3, y4, y5, y6, y7, y8].map Prod.fst) (List.mem_map_of_mem hy)
      have h2 : Rows.uptoBulk (DataW.agg (H := H) ([y0, y1, y2, y3, y4, y5, y6, y7, y8].map Prod.fst)) ≤ 1048576 := hbk
      simp only [Rows.uptoBulk] at h2
      omega
    have b4 := hall y4 (by simp)
    have b7 := hall y7 (by simp)
    have b8 := hall y8 (by simp)
    have b8' : Rows.uptoBulk y8.1 ≤ Rows.uptoBulk (DataW.agg (H := H) ([y0, y1, y2, y3, y4, y5, y6, y7, y8].map Prod.fst)) := by
      have h1 := bulk_mem (d := y8.1) (l := [y0, y1, y2, y3, y4, y5, y6, y7, y8].map Prod.fst) (List.mem_map_of_mem (by simp))
      simp only [Rows.uptoBulk]
      omega
    simp only [List.cons.injEq, and_true] at e0 e1 e2 e3 e5 e6
    subst e0 e1 e2 e3 e5 e6
    have r5 : z5 ≤ 9223372036854775807 := (bounds_i64 w5).2
    have r6 : z6 ≤ 9223372036854775807 := (bounds_i64 w6).2
    exact ⟨⟨z0, z1, s2, s3, c4, bs, z5, z6, c7, zs, c8, fs⟩, rfl, ⟨⟨hb, hblow, by show bs.length ≤ _; omega, hz, hzlow, hfs, fun f hf => by have := hfd f hf; omega, r6⟩, hznil, r5, by show zs.length ≤ _; omega, by show fs.length ≤ _; omega⟩, Nat.le_trans hfn b8'⟩

/-- A slice of calls that was read. -/
theorem open_ops {fuel : Nat} {v : Value} {x : DataW H × List MemPlace} (h : DataW.trod enc Tryz.prog W 0 (fun _ => true) true fuel 22 [v] = some x) (hbk : Rows.uptoBulk x.1 ≤ 1048576) : ∃ l, OpsIn W v l ∧ l.length ≤ 1048576 ∧ mostN l ≤ 274726912 := by
  rcases Go.Deep.open_slice Tryz.underlying22 h with ⟨hcs, rfl⟩ | ⟨a, len, cap, m, n, D, Pl, hcs, _, hl, hm, hmm, rfl, hx⟩
  · obtain rfl : v = .slice none 0 0 := by simpa using hcs
    exact ⟨[], ⟨⟨none, 0, rfl, by simp, by simp, fun k hk => by simp at hk⟩, by simp, by simp⟩, by simp, by simp [mostN]⟩
  · obtain rfl : v = .slice (some a) len cap := by simpa using hcs
    simp only [if_true] at hmm
    have hm' : cap ≤ 9223372036854775807 := by simpa [maxLen] using hm
    have hsz : Tryz.prog.cellsOf 42 = 9 := by kernel_rfl
    rw [hsz] at hx
    have hel : Rows.uptoBulkAll ((List.range len).map D) + 1 ≤ 1048576 := by
      have h2 : Rows.uptoBulk (DataW.slice ((List.range len).map D) ((List.range (m - len)).map fun j => D (len + j))) ≤ 1048576 := hbk
      simp only [Rows.uptoBulk] at h2
      omega
    have hall : ∀ i, i < len → ∃ o : OpI, (∀ j, j < 9 → W.cell? ((a.add (i * 9)).add j) = o.cells.toList[j]?) ∧ o.Ok2 W ∧ o.files.length ≤ Rows.uptoBulk (D i) := by
      intro i hi
      obtain ⟨cs', h1, h2⟩ := hx i (by omega)
      have hbd : Rows.uptoBulk (D i) ≤ 1048576 := by
        have h3 := bulk_mem (d := D i) (l := (List.range len).map D) (List.mem_map.2 ⟨i, by simpa using hi, rfl⟩)
        omega
      obtain ⟨o, rfl, ho, hof⟩ := open_op h2 hbd
      exact ⟨o, (World.cells?_some h1).2.2, ho, hof⟩
    haveI : Inhabited OpI := ⟨⟨0, 0, ByteArray.empty, ByteArray.empty, .nilIface, [], 0, 0, .nilIface, [], .nilIface, []⟩⟩
    obtain ⟨F, hF⟩ := Go.Deep.choose_lt hall
    refine ⟨(List.range len).map F, ⟨⟨some a, cap, by simp, by simpa using hl, hm', fun k hk => ?_⟩, ?_, ?_⟩, ?_, ?_⟩
    · have hk' : k < len := by simpa using hk
      obtain ⟨hc, -, -⟩ := hF k hk'
      have hs : a.spot = none := by
        have := World.cell?_spot ((hF 0 (by omega)).1 0 (by omega))
        simpa [Addr.add] using this
      obtain ⟨b, o, sp⟩ := a
      simp only at hs
      subst hs
      have hcc : ∀ j, j < 9 → W.cell? ⟨b, o + k * 9 + j, none⟩ = (F k).cells.toList[j]? := fun j hj => by
        have h := hc j hj
        rw [Go.Deep.add_add, Addr.add_lit] at h
        rw [← h, Nat.add_assoc]
      have s0 := hcc 0 (by omega)
      have hlt := block_lt s0
      refine ⟨b, o, rfl, hlt, ?_⟩
      simp only [List.getElem_map, List.getElem_range]
      exact ⟨hcc 0 (by omega), hcc 1 (by omega), hcc 2 (by omega), hcc 3 (by omega), hcc 4 (by omega), hcc 5 (by omega), hcc 6 (by omega), hcc 7 (by omega), hcc 8 (by omega)⟩
    · intro x hx
      obtain ⟨i, hi, rfl⟩ := List.mem_map.1 hx
      exact (hF i (by simpa using hi)).2.1
    · intro x hx
      obtain ⟨i, hi, rfl⟩ := List.mem_map.1 hx
      have h1 := (hF i (by simpa using hi)).2.2
      have h3 := bulk_mem (d := D i) (l := (List.range len).map D) (List.mem_map.2 ⟨i, by simpa using hi, rfl⟩)
      omega
    · have h1 := bulk_length ((List.range len).map D)
      simp at h1 ⊢
      omega
    · have h1 := bulk_length ((List.range len).map D)
      have h2 : ((List.range len).map fun i => (F i).files.length).sum ≤ Rows.uptoBulkAll ((List.range len).map D) := sum_bulk (fun i hi => (hF i (by simpa using hi)).2.2)
      have h3 := mostN_eq ((List.range len).map F)
      simp only [List.map_map, Function.comp_def, List.length_map, List.length_range] at h1 h3
      omega

end
end Go.Proofs.YtohpgmeflmppaaaGreat

namespace Go.Proofs.YtohpgmeflmppaaaGreat
set_option linter.unusedVariables false
set_option linter.unusedSimpArgs false
set_option linter.unnecessarySimpa false
set_option linter.unusedSectionVars false
open Go Go.ChangeShapes Go.WideShapes Go.ChangeAt Go.RowKit
open Go.ChangeMaps (open_string shut_string)

set_option maxRecDepth 100000 in
theorem lent_lifted (os : Os) (started : os.Started) (H : Type) (enc : TypeId × Value → H) (F : Stop.Interp) :
    ReturnsInHanded {} Tryz.checked os 3 .any ((Rows.OpenSpec.upto Rows.diskLentSpec).pre6 enc Tryz.prog Tryz.f3 Rows.diskLentUptoRow.domain false) (((Rows.OpenSpec.upto Rows.diskLentSpec).at F).post enc Tryz.prog Tryz.f3 false true false false) := by
  refine returnsInHanded_of_cond (C := Tryz.checked) (s := Rows.OpenSpec.upto Rows.diskLentSpec) (k := Rows.uptoSmall) rfl own started (by kernel_rfl) Tryz.func3
    (OpenSpec.witness (enc := enc) (C := Tryz.checked) (s := Rows.OpenSpec.upto Rows.diskLentSpec) (k := Rows.uptoSmall) rfl false ⟨#[], #[.int .i64 0, .slice none 0 0], []⟩ 8 (by kernel_rfl) (by kernel_rfl) (by kernel_rfl)
      (x := ([.lit (.int .i64 0), .nil], [], [])) (by kernel_rfl) rfl (by kernel_rfl)) ?_
  intro W base args ds gs before hval0 hW _ hk _
  have hval : ∀ (j : Nat) t v, Tryz.f3.params[j]? = some t → args[j]? = some v → Value.okWide Tryz.prog W .any base t v := hval0
  have hW' := hW
  obtain ⟨p, q, hA0, hV, rfl, hfz, hnd⟩ := hW
  have hA : DataW.TrodAll enc Tryz.prog W 0 (fun _ => true) true Tryz.f3.params.toList args.toList ds p := hA0
  rw [Tryz.params3] at hA hval
  obtain ⟨v0, vs0, d0, ds0, p0, q0, hargs, rfl, rfl, h0, r0⟩ := trodAll_cons hA
  obtain ⟨v1, vs1, d1, ds1, p1, q1, rfl, rfl, rfl, h1, r1⟩ := trodAll_cons r0
  obtain ⟨rfl, rfl, rfl⟩ := trodAll_nil r1
  obtain rfl : args = #[v0, v1] := by cases args; simp_all
  obtain ⟨rfl, rfl⟩ := trodVars_none hV
  have k1 := h1
  have lt1 : ∀ x ∈ p1, x.block < W.heap.size := by obtain ⟨m, hm⟩ := k1; exact DataW.trod_lt m _ _ _ hm
  have hbk : Rows.uptoBulk d1 ≤ 1048576 := by
    have h := of_decide_eq_true hk
    have h2 := bulk_mem (d := d1) (l := [d0, d1] ++ []) (by simp)
    exact Nat.le_trans h2 h
  obtain ⟨a0, rfl, rfl, rfl, w0⟩ := open_int Tryz.underlying3 (hval 0 3 v0 rfl rfl) h0
  obtain ⟨a1, len1, cap1, rfl⟩ := okWide_slice Tryz.underlying22 (hval 1 22 v1 rfl rfl)
  obtain ⟨l, w1, w2, w3⟩ : ∃ l, OpsIn W (.slice a1 len1 cap1) l ∧ l.length ≤ 1048576 ∧ mostN l ≤ 274726912 := by
    obtain ⟨fuel, hf⟩ := h1
    exact open_ops hf hbk
  clear hA0 hval0
  refine (diskLent_walk w1 w2).mono fun e W' ⟨he, bel⟩ => ?_
  subst he
  exact ⟨_, rfl, _, _, _, [], _, [], hW', trodAll_mk1 (shut_bool Tryz.underlying4 _), (trodAll_cons_mk (shut_int Tryz.underlying3 w0) (trodAll_cons_mk (Below.trod laidOut (by kernel_rfl) (of_decide_eq_true (by kernel_rfl)) k1 bel lt1) trodAll_mk0)), rfl, bel.frame _, fun h => by cases h⟩

/-- THE STATEMENT. -/
theorem diskLent_holds : Rows.DiskLentUptoSaid :=
  OpenClaim.holds_of_cond 3 Tryz.f3 rfl rfl rfl rfl rfl rfl rfl ⟨rfl, rfl, rfl, rfl, rfl⟩ rfl rfl rfl rfl rfl (by kernel_rfl) Tryz.func3 (by kernel_rfl)
    (of_decide_eq_true (by kernel_rfl)) (by unfold Func.isWrapper; first | (rw [if_pos (by decide +kernel)]; kernel_rfl) | (rw [if_neg (by decide +kernel)]; exact ⟨rfl, rfl⟩))
    (fun os started H enc _ F => lent_lifted os started H enc F)
#print axioms diskLent_holds
end Go.Proofs.YtohpgmeflmppaaaGreat
