/-
  acts, walked: Append.
  tells, walked: Size, Free, Capacity, Down.
  One more disk of each joins the world: the plain law, and joins, walked.
  joins, walked.
  makes, walked: New.
-/
import Derived.Test.YtohpgmeflmppaaaGreatGP
namespace Go.Proofs.YtohpgmeflmppaaaGreat
set_option linter.unusedVariables false
set_option linter.unusedSimpArgs false
set_option linter.unnecessarySimpa false
set_option linter.unusedSectionVars false
open Go Go.RowKit

/-- What a call leaves that may turn the book. -/
def ActedB (w0 w : World) (S : WS) (most : Int) (e : Ending) (w' : World) : Prop := e = .returned (.bool true) ∧ ∃ S', WOn w0 w' S' ∧ S'.p = S.p ∧ S'.ds.length = S.ds.length ∧ S'.b.n ≤ S.b.n + most ∧ (Calm S → Calm S') ∧ Turn w.heap.size w w' S S'

/-- The book has taken a list that was made since. -/
theorem WOn.took {w0 w w' : World} {S : WS} (h : WOn w0 w S) {v : Value} {b' : BK} (hk : Took w w' S.p S.dv S.rv S.b b' v) (hv : ∀ L k, v.ownBlock = some k → ¬ S.ownAt L k) (hvB : ∀ k, v.ownBlock = some k → w0.heap.size ≤ k ∧ k < w.heap.size) : WOn w0 w' { S with b := b' } := by
  refine ⟨h.mem.took h.upd.size hk hv hvB, h.upd.trans hk.upd (fun k hk1 hm => ?_), h.pair, h.few⟩
  rcases hm with hm | hm | hm
  · have := h.mem.low 0 k (.inl ⟨rfl, .inl hm⟩); omega
  · have := h.mem.low 0 k (.inl ⟨rfl, .inr (.inr (.inr hm))⟩); omega
  · have := (hvB k hm).1; omega

theorem Turn.took {N : Nat} {w w' : World} {S : WS} {v : Value} {b' : BK} (hk : Took w w' S.p S.dv S.rv S.b b' v) (hN : N ≤ w.heap.size) (hv : ∀ k, v.ownBlock = some k → N ≤ k) : Turn N w w' S { S with b := b' } := by
  refine ⟨hk.upd.mono (fun k _ h => ?_), fun L k h => ?_⟩
  · rcases h with h | h | h
    · exact .inl ⟨0, .inl ⟨rfl, .inl h⟩⟩
    · exact .inl ⟨0, .inl ⟨rfl, .inr (.inr (.inr h))⟩⟩
    · exact .inr (hv k h)
  · rcases h with ⟨e, h⟩ | ⟨j, hj, e, h⟩ | ⟨j, hj, e, h⟩
    · rcases h with h | h | h | h
      · exact .inl ⟨0, .inl ⟨rfl, .inl h⟩⟩
      · exact .inl ⟨0, .inl ⟨rfl, .inr (.inl h)⟩⟩
      · exact .inl ⟨0, .inl ⟨rfl, .inr (.inr (.inl h))⟩⟩
      · rcases hk.foot k h with h1 | h1 | h1
        · exact .inl ⟨0, .inl ⟨rfl, .inr (.inr (.inr h1))⟩⟩
        · exact .inr (hv k h1)
        · exact .inr (Nat.le_trans hN h1)
    · exact .inl ⟨L, .inr (.inl ⟨j, hj, e, h⟩)⟩
    · exact .inl ⟨L, .inr (.inr ⟨j, hj, e, h⟩)⟩

/-- The bytes that an Append is handed: they lie outside of what the world owns. -/
structure OpAt (w : World) (S : WS) (o : OpI) : Prop where
  bytes : BytesAt w o.bv o.bs
  out : ∀ a l c, o.bv = .slice (some a) l c → 0 < l → (∀ L, ¬ S.ownAt L a.block) ∧ a.block < w.heap.size
  few : o.bs.length ≤ 16777216
  shapes : OpShapes o

theorem OpAt.keep {w w' : World} {S : WS} {o : OpI} (h : OpAt w S o) (hu : Upd (fun _ => False) w w') : OpAt w' S o :=
  ⟨h.bytes.upd hu (fun a l c e h0 => ⟨fun h => h, (h.out a l c e h0).2⟩), fun a l c e h0 => ⟨(h.out a l c e h0).1, Nat.lt_of_lt_of_le (h.out a l c e h0).2 hu.size⟩, h.few, h.shapes⟩

/-- What was handed in from outside. -/
theorem OpI.Ok.opAt {w0 w : World} {S : WS} {o : OpI} (h : o.Ok w0) (hw : WOn w0 w S) : OpAt w S o :=
  ⟨h.bytes.upd hw.upd (fun a l c e h0 => ⟨fun h => h, h.bytesLow a l c e h0⟩), fun a l c e h0 => ⟨fun L hL => by have h1 := hw.mem.low L _ hL; have h2 := h.bytesLow a l c e h0; omega, Nat.lt_of_lt_of_le (h.bytesLow a l c e h0) hw.upd.size⟩, h.bytesFew, OpI.shapes h⟩

theorem WOn.mk2 {w0 w w' : World} {S : WS} (h : WOn w0 w S) {b' : BK} {i : Nat} (hi : i < S.ds.length) (hi' : i < S.rs.length) {s2 : DS} {r2 : RS} (m : WS.Mem w0.heap.size w' { S with b := b', ds := S.ds.set i s2, rs := S.rs.set i r2 }) (hu : Upd (fun _ => False) w0 w')
    (ha : Alike s2.abs r2.abs) (hso : Sorted r2.F) : WOn w0 w' { S with b := b', ds := S.ds.set i s2, rs := S.rs.set i r2 } := by
  refine ⟨m, hu, ?_, by show (S.ds.set i s2).length ≤ 5; rw [List.length_set]; exact h.few⟩
  intro j hj hj'
  show Alike ((S.ds.set i s2)[j]'hj).abs ((S.rs.set i r2)[j]'hj').abs ∧ Sorted ((S.rs.set i r2)[j]'hj').F
  by_cases e : i = j
  · subst e
    rw [List.getElem_set_self, List.getElem_set_self]
    exact ⟨ha, hso⟩
  · rw [List.getElem_set_ne e, List.getElem_set_ne e]
    exact h.pair j (by simpa using hj) (by simpa using hj')

set_option maxRecDepth 100000 in
set_option maxHeartbeats 3200000 in
theorem acts_append {w0 w : World} {S : WS} {o : OpI} {i : Nat} (hw : WOn w0 w S) (hi : i < S.ds.length) (hi' : i < S.rs.length) (ho : OpAt w S o) (hk : o.kind = 2) (hn : S.b.n ≤ 4611686018427387904) :
    Calls Tryz.prog 45 #[.pointer (some ⟨S.p, 0, none⟩), .agg o.cells, ptrD S.ds[i], ptrR S.rs[i]] w fun e w' => ActedB w0 w S 268435456 e w' := by
  obtain ⟨ba, bc, ca, cl, cc, fa, fl, fc, hb1, hc1, hf1⟩ := ho.shapes
  have hcells : o.cells = #[.int .i64 2, .int .i64 o.obj, .string o.name, .string o.dest, .slice ba o.bs.length bc, .int .i64 o.pos, .int .i64 o.n, .slice ca cl cc, .slice fa fl fc] := by unfold OpI.cells; rw [hk, hb1, hc1, hf1]
  rw [hcells]
  have HW := hid hw; have HO := hid ho; have HB1 := hid hb1
  have hfew := ho.few
  unfold ptrD ptrR
  obtain ⟨dp, hdp⟩ : ∃ dp, dp = S.ds[i].p := ⟨_, rfl⟩
  obtain ⟨rp, hrp⟩ : ∃ rp, rp = S.rs[i].p := ⟨_, rfl⟩
  rw [← hdp, ← hrp]
  have HDP := hid hdp; have HRP := hid hrp
  clear hw ho hb1 hc1 hf1 hcells hdp hrp hk
  go_enter Tryz.func45, Tryz.ntmps45
  go_upto_region 5 with fail
  obtain ⟨wb, hwb⟩ : ∃ wb, wb = w.alloc (.cells #[.int .i64 2, .int .i64 o.obj, .string o.name, .string o.dest, .slice ba o.bs.length bc, .int .i64 o.pos, .int .i64 o.n, .slice ca cl cc, .slice fa fl fc] 42) := ⟨_, rfl⟩
  rw [← hwb]
  obtain ⟨fb, hfb⟩ : ∃ fb, fb = w.heap.size := ⟨_, rfl⟩
  rw [← hfb]
  have hbx : wb.heap[fb]? = some (.cells #[.int .i64 2, .int .i64 o.obj, .string o.name, .string o.dest, .slice ba o.bs.length bc, .int .i64 o.pos, .int .i64 o.n, .slice ca cl cc, .slice fa fl fc] 42 (0, 0)) := by rw [hwb, hfb]; exact heap_alloc_new w _
  have hub : Upd (fun _ => False) w wb := by rw [hwb]; exact (Upd.refl _ _).alloc _
  have HBX := hid hbx
  have hcell : ∀ W : World, W.heap[fb]? = wb.heap[fb]? → W.cell? ⟨fb, 2, none⟩ = some (.string o.name) ∧ W.cell? ⟨fb, 4, none⟩ = some (.slice ba o.bs.length bc) := fun W hW => by
    have h := hW.trans HBX.out
    exact ⟨by rw [cell_of_row W _ 2 _ _ _ h]; rfl, by rw [cell_of_row W _ 4 _ _ _ h]; rfl⟩
  have HCELL := hid hcell
  have hin : ∀ W, Upd (fun k => (∃ L, S.ownAt L k) ∨ w.heap.size ≤ k) w W → BytesAt W (.slice ba o.bs.length bc) o.bs := fun W hW => by
    have h := HO.out.bytes.upd hW (fun a l c e h0 => ⟨fun h => h.elim (fun ⟨L, hL⟩ => (HO.out.out a l c e h0).1 L hL) (fun h => by have := (HO.out.out a l c e h0).2; omega), (HO.out.out a l c e h0).2⟩)
    rw [HB1.out] at h
    exact h
  have HIN := hid hin
  have hfbw : fb < wb.heap.size := lt_of_heap hbx
  have hwfb : w.heap.size ≤ fb := by omega
  have HUB := hid hub; have HWFB := hid hwfb
  obtain ⟨b2, b4⟩ := hcell wb rfl
  clear hwb hfb hbx hub hcell hin hwfb
  go_wp2_with fail
  refine (roomy_any (HIN.out wb (HUB.out.mono (fun _ _ h => h.elim))) (by omega)).mono ?_
  rintro e w1 ⟨wv, rfl, hd1, hf1, hu1⟩
  have hlen5 : (o.bs ++ [201, 202, 203, 204, 205]).length = o.bs.length + 5 := by simp
  obtain ⟨wa, wc, hws, hwl, hwm, hwn, hwz⟩ := hd1.shape
  rw [hlen5] at hws hwl
  have hwl2 : o.bs.length ≤ wc := by omega
  have hwl3 : (o.bs.length : Int) ≤ (wc : Int) := by omega
  have hwm' : wc ≤ 9223372036854775807 := by simpa [maxLen] using hwm
  obtain ⟨g, rfl⟩ : ∃ g, wa = some ⟨g, 0, none⟩ := by
    cases wa with
    | none => have := congrArg List.length (hwn rfl).1; simp at this
    | some a =>
      obtain ⟨z1, z2, -, -⟩ := hwz a rfl
      obtain ⟨g, q, s⟩ := a
      simp only at z1 z2
      subst z1 z2
      exact ⟨g, rfl⟩
  subst hws
  have HD1 := hid hd1; have HU1 := hid hu1
  have hgw : wb.heap.size ≤ g := hf1 g rfl
  have hg1 : g < w1.heap.size := hd1.lt g rfl
  have hon1 : WOn w0 w1 S := HW.out.keep (HUB.out.trans hu1 (fun _ _ h => h))
  have HON1 := hid hon1
  obtain ⟨b2', b4'⟩ := HCELL.out w1 (hu1.block fb hfbw (fun h => h))
  have hfb1 : fb < w1.heap.size := Nat.lt_of_lt_of_le hfbw hu1.size
  have hfd : ¬ fb ∈ S.ds[i].blocks := fun hm => by have h1 := (HW.out.mem.dsIn i hi).lt fb hm; have := HWFB.out; omega
  have hfr : ¬ S.rs[i].own fb := fun hm => by have h1 := (HW.out.mem.rsIn i hi').lt hm; have := HWFB.out; omega
  have HFD := hid hfd; have HFR := hid hfr
  -- the program's Append
  have hda : Calls Tryz.prog 27 #[.pointer (some ⟨dp, 0, none⟩), .string o.name, .slice (some ⟨g, 0, none⟩) o.bs.length wc] w1.drew fun e W' => e = .returned (.int .i64 (cAppend S.ds[i].abs o.name o.bs).1) ∧ ∃ s2, Step w1.drew W' S.ds[i] s2 ∧ s2.abs = (cAppend S.ds[i].abs o.name o.bs).2 := by
    have hk := HON1.out.keep ((Upd.refl (fun _ => False) w1).drew)
    have hbt : BytesAt w1.drew (.slice (some ⟨g, 0, none⟩) o.bs.length wc) o.bs := by
      have h1 := (HD1.out.upd ((Upd.refl (fun _ => False) w1).drew) (fun _ _ h => h)).bytes
      have h2 : BytesAt w1.drew (.slice (some ⟨g, 0, none⟩) (o.bs ++ [201, 202, 203, 204, 205]).length wc) (o.bs ++ [201, 202, 203, 204, 205]) := by rw [hlen5]; exact h1
      have h3 := h2.take (n := o.bs.length) (by simp) wc (fun h => by cases h)
      rwa [List.take_left] at h3
    have h := append_any (hk.mem.dsIn i hi) o.name hbt (fun a l c e h0 => by
      injection e with e1 _ _; injection e1 with e1; subst e1
      exact ⟨fun e => by have h1 := (HW.out.mem.dsIn i hi).plt; have h2 := HUB.out.size; have e' : g = S.ds[i].p := e; omega, hg1⟩)
    rw [appendA_c, ← HDP.out] at h
    exact h
  have HDA := hid hda
  obtain ⟨c, hc⟩ : ∃ c, c = (cAppend S.ds[i].abs o.name o.bs).1 := ⟨_, rfl⟩
  rw [← hc] at HDA
  have HC := hid hc
  clear hd1 hf1 hu1 hwn hwz hwm hon1 hfd hfr hda hc b2 b4
  go_wp2_with fail
  go_region_held3 (fun W => W.cell? ⟨fb, 2, none⟩ = some (.string o.name) ∧ W.cell? ⟨fb, 4, none⟩ = some (.slice ba o.bs.length bc))
    (first
      | go_keep
      | (go_split_ands
         refine ⟨?_, ?_⟩
         · (rw [World.cell?_of_block (w := w1.drew) (a := ⟨fb, 2, none⟩) (hst.upd.block fb (by simpa using hfb1) HFD.out)]; assumption)
         · (rw [World.cell?_of_block (w := w1.drew) (a := ⟨fb, 4, none⟩) (hst.upd.block fb (by simpa using hfb1) HFD.out)]; assumption)))
    (first
      | (go_at_call 27; refine HDA.out.mono ?_; rintro e w2 ⟨rfl, s2, hst, habs⟩; have hfb2 : fb < w2.heap.size := Nat.lt_of_lt_of_le (by simpa using hfb1) hst.upd.size)
      | fail)
  have hk1 := HON1.out.keep ((Upd.refl (fun _ => False) w1).drew)
  have m2 := hk1.mem.stepD hk1.upd.size hi hst
  have hu2 : Upd (fun _ => False) w0 w2 := hk1.upd.trans hst.upd (fun k hk hm => by have := hk1.mem.low (2 * i + 1) k (.inr (.inl ⟨i, hi, rfl, hm⟩)); omega)
  have hgd : ¬ g ∈ S.ds[i].blocks := fun hm => by have h1 := (HW.out.mem.dsIn i hi).lt g hm; have := HUB.out.size; omega
  have hd2 : DataIs w2 (.slice (some ⟨g, 0, none⟩) (o.bs.length + 5) wc) (o.bs ++ [201, 202, 203, 204, 205]) := (HD1.out.upd ((Upd.refl (fun _ => False) w1).drew) (fun _ _ h => h)).upd hst.upd (fun k hk => by cases hk; exact hgd)
  have hfoot2 : ∀ k, k ∈ s2.blocks → k ∈ S.ds[i].blocks ∨ w1.heap.size ≤ k := hst.foot
  have hbfb2 : w2.heap[fb]? = w1.heap[fb]? := hst.upd.block fb (by simpa using hfb1) HFD.out
  have M2 := hid m2; have HU2 := hid hu2; have HD2 := hid hd2; have HFT2 := hid hfoot2; have HABS := hid habs; have HSTP := hid hst.p
  have hbfb1 : w1.heap[fb]? = wb.heap[fb]? := HU1.out.block fb hfbw (fun h => h)
  obtain ⟨c2', c4'⟩ := HCELL.out w2 (hbfb2.trans hbfb1)
  have HB2 := hid (hbfb2.trans hbfb1)
  have HT2 := hid (((Turn.keep w.heap.size S ((HUB.out.trans HU1.out (fun _ _ h => h)).drew)).trans (Turn.stepD (w := w1.drew) (show w.heap.size ≤ w1.drew.heap.size from Nat.le_trans HUB.out.size HU1.out.size) hi hst)))
  have HS2 := hid hst.upd.size
  clear hk1 m2 hu2 hgd hd2 hfoot2 hst habs b2' b4' hbfb2 hbfb1
  go_wp2_with fail
  refine (roomy_any (HIN.out w2 HT2.out.upd) (by omega)).mono ?_
  rintro e w3 ⟨wv3, rfl, hd3, hf3, hu3⟩
  have m3 := M2.out.keep hu3
  have hdw3 := HD2.out.upd hu3 (fun _ _ h => h)
  have hsame : Calls Tryz.prog 10 #[.slice (some ⟨g, 0, none⟩) (o.bs.length + 5) wc, wv3] w3 fun e w' => e = .returned (.bool true) ∧ w' = w3 := (same_any hdw3.bytes hd3.bytes).mono (by rintro e w' ⟨rfl, rfl⟩; exact ⟨by simp, rfl⟩)
  have HSAME := hid hsame; have M3 := hid m3; have HDW3 := hid hdw3
  have HU3 := hid (HU2.out.trans hu3 (fun _ _ h => h))
  have HB3 := hid ((hu3.block fb hfb2 (fun h => h)).trans HB2.out)
  obtain ⟨c2'', c4''⟩ := HCELL.out w3 HB3.out
  have hg3 : w2.heap.size ≤ w3.heap.size := hu3.size
  have HT3 := hid (HT2.out.trans (Turn.keep w.heap.size { S with ds := S.ds.set i s2 } hu3))
  clear hsame m3 hdw3 hd3 hf3 hu3 c2' c4'
  go_wp2_with fail
  refine HSAME.out.mono ?_
  rintro e w4 ⟨rfl, hww⟩
  obtain rfl := hww.symm
  have hsz1 : wb.heap.size ≤ w1.heap.size := HU1.out.size
  have hpS : S.p < w.heap.size := lt_of_heap HW.out.mem.top
  have hwwb : w.heap.size ≤ wb.heap.size := HUB.out.size
  have hblk : ∀ k, S.b.blk k → k < w.heap.size := HW.out.mem.book.lt
  have hne1 : ¬ (Value.slice (some ⟨g, 0, none⟩) (o.bs.length + 5) wc).ownBlock = some S.p := fun e => by
    have e' : g = S.p := by simpa [Value.ownBlock] using e
    omega
  have hne2 : ∀ k, (Value.slice (some ⟨g, 0, none⟩) (o.bs.length + 5) wc).ownBlock = some k → ¬ S.b.blk k := fun k hk hb => by
    have e' : g = k := by simpa [Value.ownBlock] using hk
    have := hblk k hb
    omega
  have htake := take_any M3.out.book M3.out.top HDW3.out (by simp; omega) hn M3.out.bp hne1 hne2
  have HTAKE := hid htake
  clear htake
  go_wp2_with fail
  refine HTAKE.out.mono ?_
  rintro e w5 ⟨rfl, b', hT⟩
  have hnown : ∀ L k, (Value.slice (some ⟨g, 0, none⟩) (o.bs.length + 5) wc).ownBlock = some k → ¬ ({ S with ds := S.ds.set i s2 } : WS).ownAt L k := by
    intro L k hk hown
    have e' : g = k := by simpa [Value.ownBlock] using hk
    subst e'
    have hlow : ∀ L, ¬ S.ownAt L g := fun L h => by have := HW.out.mem.lt h; omega
    rcases hown with ⟨rfl, hh⟩ | ⟨j, hj, e2, hh⟩ | ⟨j, hj, e2, hh⟩
    · exact hlow 0 (.inl ⟨rfl, hh⟩)
    · have hj' : j < S.ds.length := by simpa using hj
      have hh' : g ∈ ((S.ds.set i s2)[j]'hj).blocks := hh
      by_cases e3 : i = j
      · subst e3
        rw [List.getElem_set_self] at hh'
        rcases HFT2.out g hh' with h1 | h1
        · exact hlow (2 * i + 1) (.inr (.inl ⟨i, hi, rfl, h1⟩))
        · omega
      · rw [List.getElem_set_ne e3] at hh'
        exact hlow (2 * j + 1) (.inr (.inl ⟨j, hj', rfl, hh'⟩))
    · exact hlow (2 * j + 2) (.inr (.inr ⟨j, hj, rfl, hh⟩))
  have hgw0 : ∀ k, (Value.slice (some ⟨g, 0, none⟩) (o.bs.length + 5) wc).ownBlock = some k → w0.heap.size ≤ k ∧ k < w3.heap.size := fun k hk => by
    have e' : g = k := by simpa [Value.ownBlock] using hk
    subst e'
    have := HW.out.upd.size
    have := HDW3.out.lt g rfl
    exact ⟨by omega, this⟩
  have m5 := M3.out.took (S := { S with ds := S.ds.set i s2 }) HU3.out.size hT hnown hgw0
  have hu5 : Upd (fun _ => False) w0 w5 := HU3.out.trans hT.upd (fun k hk hm => by
    rcases hm with hm | hm | hm
    · have h1 : k = S.p := hm; have := HW.out.mem.low 0 k (.inl ⟨rfl, .inl h1⟩); omega
    · have h1 : S.b.blk k := hm; have := HW.out.mem.low 0 k (.inl ⟨rfl, .inr (.inr (.inr h1))⟩); omega
    · have := (hgw0 k hm).1; omega)
  have hfb5 : w5.heap[fb]? = w3.heap[fb]? := hT.upd.block fb (by omega) (fun hm => by
    rcases hm with hm | hm | hm
    · have h1 : fb = S.p := hm; have := HWFB.out; omega
    · have h1 := hblk fb hm; have := HWFB.out; omega
    · have e' : g = fb := by simpa [Value.ownBlock] using hm
      omega)
  obtain ⟨d2', d4'⟩ := HCELL.out w5 (hfb5.trans HB3.out)
  have hfbl5 : fb < w5.heap.size := Nat.lt_of_lt_of_le (by omega) hT.upd.size
  have hmost := hT.most
  have hN3 : w.heap.size ≤ w3.heap.size := by have h1 := HS2.out; have h2 := HU1.out.size; have h3 := HUB.out.size; simp at h1; omega
  have hvN : ∀ k, (Value.slice (some ⟨g, 0, none⟩) (o.bs.length + 5) wc).ownBlock = some k → w.heap.size ≤ k := fun k hk => by
    have e' : g = k := by simpa [Value.ownBlock] using hk
    omega
  have HT5 := hid ((HT3.out.trans (Turn.took (S := { S with ds := S.ds.set i s2 }) hT hN3 hvN)).trans (Turn.keep w.heap.size { S with b := b', ds := S.ds.set i s2 } ((Upd.refl (fun _ => False) w5).drew)))
  have hN5 : w.heap.size ≤ w5.heap.size := Nat.le_trans hN3 hT.upd.size
  have hra : Calls Tryz.prog 29 #[.pointer (some ⟨rp, 0, none⟩), .string o.name, .slice ba o.bs.length bc] w5.drew fun e W' => e = .returned (.int .i64 c) ∧ ∃ r2, RStep w5.drew W' S.rs[i] r2 ∧ Alike s2.abs r2.abs ∧ Sorted r2.F := by
    have mk := m5.keep ((Upd.refl (fun _ => False) w5).drew)
    obtain ⟨hal, hso⟩ := HW.out.pair i hi hi'
    have hnd : NamesND S.ds[i].abs := names_nodup (HW.out.mem.dsIn i hi)
    have hcc := cAppend_alike hal hnd o.name o.bs
    rw [HRP.out]
    refine (refAppend_any (mk.rsIn i hi') hso o.name (HIN.out w5.drew HT5.out.upd) (fun a l c e h0 => ?_) (by omega)).mono ?_
    · obtain ⟨h1, h2⟩ := HO.out.out a l c (HB1.out.trans e) h0
      exact ⟨fun hm => h1 (2 * i + 2) (.inr (.inr ⟨i, hi', rfl, hm⟩)), Nat.lt_of_lt_of_le h2 hN5⟩
    · rintro e W' ⟨rfl, r2, h1, h2, h3⟩
      exact ⟨by rw [HC.out, hcc.1], r2, h1, HABS.out ▸ hcc.2.trans h2.symm, h3⟩
  have M5 := hid m5; have HU5 := hid hu5; have HRA := hid hra; have HMOST := hid hmost
  clear hT hnown hgw0 m5 hu5 hfb5 hra hmost c2'' c4''
  go_wp2_with fail
  go_region_held3 (fun W => W.cell? ⟨fb, 2, none⟩ = some (.string o.name) ∧ W.cell? ⟨fb, 4, none⟩ = some (.slice ba o.bs.length bc))
    (first
      | go_keep
      | (go_split_ands
         refine ⟨?_, ?_⟩
         · (rw [World.cell?_of_block (w := w5.drew) (a := ⟨fb, 2, none⟩) (hr2.upd.block fb (by simpa using hfbl5) HFR.out)]; assumption)
         · (rw [World.cell?_of_block (w := w5.drew) (a := ⟨fb, 4, none⟩) (hr2.upd.block fb (by simpa using hfbl5) HFR.out)]; assumption)))
    (first
      | (go_at_call 9; refine (num_any _ _).mono ?_; rintro e w' ⟨rfl, hww⟩; obtain rfl := hww.symm)
      | (go_at_call 29; refine HRA.out.mono ?_; rintro e w6 ⟨rfl, r2, hr2, hal, hso⟩)
      | fail)
  all_goals
    have mk := M5.out.keep ((Upd.refl (fun _ => False) w5).drew)
    have m6 := mk.stepR (Nat.le_trans HU5.out.size (Nat.le_refl _)) (i := i) hi' hr2
    have hu6 : Upd (fun _ => False) w0 w6 := (HU5.out.drew).trans hr2.upd (fun k hk hm => by have := mk.low (2 * i + 2) k (.inr (.inr ⟨i, hi', rfl, hm⟩)); omega)
    have HF := hid (HW.out.mk2 hi hi' m6 hu6 hal hso)
    have HTN := hid (HT5.out.trans (Turn.stepR (w := w5.drew) (S := { S with b := b', ds := S.ds.set i s2 }) (show w.heap.size ≤ w5.drew.heap.size from hN5) hi' hr2))
    have HCM := hid (fun hc : Calm S => hc.set hi (by have h := cAppend_calm (hc i hi) o.name o.bs; rw [← HABS.out] at h; exact h) b' (S.rs.set i r2))
    clear mk m6 hu6 hr2 hal hso
    go_wp2
    go_ret
    exact ⟨rfl, _, HF.out, rfl, by simp, HMOST.out, HCM.out, HTN.out⟩

end Go.Proofs.YtohpgmeflmppaaaGreat

namespace Go.Proofs.YtohpgmeflmppaaaGreat
set_option linter.unusedVariables false
set_option linter.unusedSimpArgs false
set_option linter.unnecessarySimpa false
set_option linter.unusedSectionVars false
open Go Go.RowKit

set_option maxRecDepth 100000 in
set_option maxHeartbeats 3200000 in
theorem tells_size {w0 w : World} {S : WS} {o : OpI} {i : Nat} (hw : WOn w0 w S) (hi : i < S.ds.length) (hi' : i < S.rs.length) (ho : OpShapes o) (hk : o.kind = 7) :
    Calls Tryz.prog 46 #[.pointer (some ⟨S.p, 0, none⟩), .agg o.cells, ptrD S.ds[i], ptrR S.rs[i]] w fun e w' => Acted w0 w S e w' := by
  obtain ⟨ba, bc, ca, cl, cc, fa, fl, fc, hb1, hc1, hf1⟩ := ho.get
  have hcells : o.cells = #[.int .i64 7, .int .i64 o.obj, .string o.name, .string o.dest, .slice ba o.bs.length bc, .int .i64 o.pos, .int .i64 o.n, .slice ca cl cc, .slice fa fl fc] := by unfold OpI.cells; rw [hk, hb1, hc1, hf1]
  rw [hcells]
  obtain ⟨hal, hso⟩ := hw.pair i hi hi'
  have hnd : NamesND S.ds[i].abs := names_nodup (hw.mem.dsIn i hi)
  have HD := hid (show ∀ W, Upd (fun _ => False) w W → Calls Tryz.prog 80 #[.pointer (some ⟨S.ds[i].p, 0, none⟩), .string o.name] W fun e W' => e = .returned (.tuple #[.int .i64 (sizeC S.ds[i].abs o.name), .int .i64 (lookC S.ds[i].abs o.name true)]) ∧ ∃ q, W' = W.drewN q from fun W hW => by
    refine (size_any ((hw.mem.keep hW).dsIn i hi) o.name).mono ?_
    rintro e W' ⟨rfl, rfl⟩
    rw [sizeRes_c, lookC_true]
    exact ⟨rfl, 0, rfl⟩)
  have HR := hid (show ∀ W, Upd (fun _ => False) w W → Calls Tryz.prog 81 #[.pointer (some ⟨S.rs[i].p, 0, none⟩), .string o.name] W fun e W' => e = .returned (.tuple #[.int .i64 (sizeC S.ds[i].abs o.name), .int .i64 (lookC S.ds[i].abs o.name true)]) ∧ ∃ q, W' = W.drewN q from fun W hW => by
    refine (refSize_any ((hw.mem.keep hW).rsIn i hi') o.name).mono ?_
    rintro e W' ⟨rfl, q, rfl⟩
    rw [sizeC_alike hal hnd, hal.look hnd]
    exact ⟨rfl, q, rfl⟩)
  have HW := hid hw
  unfold ptrD ptrR
  obtain ⟨dp, hdp⟩ : ∃ dp, dp = S.ds[i].p := ⟨_, rfl⟩
  obtain ⟨rp, hrp⟩ : ∃ rp, rp = S.rs[i].p := ⟨_, rfl⟩
  obtain ⟨c, hc⟩ : ∃ c, c = sizeC S.ds[i].abs o.name := ⟨_, rfl⟩
  obtain ⟨c2, hc2⟩ : ∃ c2, c2 = lookC S.ds[i].abs o.name true := ⟨_, rfl⟩
  rw [← hdp, ← hc, ← hc2] at HD
  rw [← hrp, ← hc, ← hc2] at HR
  rw [← hdp, ← hrp]
  clear hw ho hb1 hc1 hf1 hcells hdp hrp hc hc2 hk hal hso hnd
  go_enter Tryz.func46, Tryz.ntmps46
  go_wp2_with fail
  obtain ⟨wb, hwb⟩ : ∃ wb, wb = w.alloc (.cells #[.int .i64 7, .int .i64 o.obj, .string o.name, .string o.dest, .slice ba o.bs.length bc, .int .i64 o.pos, .int .i64 o.n, .slice ca cl cc, .slice fa fl fc] 42) := ⟨_, rfl⟩
  rw [← hwb]
  obtain ⟨fb, hfb⟩ : ∃ fb, fb = w.heap.size := ⟨_, rfl⟩
  rw [← hfb]
  have hbx : wb.heap[fb]? = some (.cells #[.int .i64 7, .int .i64 o.obj, .string o.name, .string o.dest, .slice ba o.bs.length bc, .int .i64 o.pos, .int .i64 o.n, .slice ca cl cc, .slice fa fl fc] 42 (0, 0)) := by rw [hwb, hfb]; exact heap_alloc_new w _
  have hub : Upd (fun _ => False) w wb := by rw [hwb]; exact (Upd.refl _ _).alloc _
  have HUB := hid hub; have HBX := hid hbx
  have hfl : fb < wb.heap.size := lt_of_heap hbx
  clear hwb hfb hub hbx
  refine (HD.out _ HUB.out).mono ?_
  rintro e w2 ⟨rfl, q, hq⟩
  have b2 : w2.cell? ⟨fb, 2, none⟩ = some (.string o.name) := by rw [hq]; show wb.cell? _ = _; rw [cell_of_row wb _ 2 _ _ _ HBX.out]; rfl
  have hu2 : Upd (fun _ => False) w w2 := by rw [hq]; exact HUB.out.drewN q
  have HU2 := hid hu2
  have hfl2 : fb < w2.heap.size := by rw [hq]; exact hfl
  clear hq hu2
  go_wp2_with fail
  refine (HR.out _ HU2.out).mono ?_
  rintro e w3 ⟨rfl, q3, hq3⟩
  have HU3 := hid (show Upd (fun _ => False) w w3 by rw [hq3]; exact HU2.out.drewN q3)
  clear hq3
  go_wp2_with (go_at_call 9; refine (num_any _ _).mono ?_; rintro e w' ⟨rfl, hww⟩; obtain rfl := hww.symm)
  all_goals
    go_ret
    exact ⟨rfl, _, HW.out.keep HU3.out, rfl, rfl, rfl, id, Turn.keep _ _ HU3.out⟩

end Go.Proofs.YtohpgmeflmppaaaGreat

namespace Go.Proofs.YtohpgmeflmppaaaGreat
set_option linter.unusedVariables false
set_option linter.unusedSimpArgs false
set_option linter.unnecessarySimpa false
set_option linter.unusedSectionVars false
open Go Go.RowKit

/-- A pointer joins a row of pointers. -/
theorem run_append_one {w : World} {t e : TypeId} (hinfo : (Tryz.prog.info? e).map (fun i => (i.zero, i.size, i.bytes)) = some (some (.pointer none), 1, 8)) (hund : Tryz.prog.underlying t = some (.slice e)) {v x : Value} {n : Nat} {xs : List Value} (h : w.ownsRow 0 e 1 v n xs) (hn : n ≤ 1000000) (hx : x.oneCell' = true) (ty : TypeId) :
    ∃ v' w', (Builtin.append_ #[t, t] ty #[v, .slice (some ⟨w.heap.size, 0, none⟩) 1 1]).run Tryz.prog (w.alloc (.cells #[x] e)) = .ok v' w' ∧ w'.ownsRow 0 e 1 v' (n + 1) (xs ++ [x]) ∧ Upd (fun k => v.ownBlock = some k) w w' ∧ (∀ k, v'.ownBlock = some k → v.ownBlock = some k ∨ w.heap.size ≤ k) := by
  obtain ⟨i0, hi, hz0, hz1, hz2⟩ := info_parts hinfo
  obtain ⟨v', w', hr, hown, hgr, -, hat⟩ := run_append_own_at (P := Tryz.prog) (w.alloc (.cells #[x] e)) 0 t ty e i0 _ 1 8 hund hi hz0 hz1 hz2 rfl (by omega) v n xs
    ((owns_upd (S := fun _ => False) h (Upd.refl _ _) (fun _ _ h => h)).alloc _) ⟨w.heap.size, 0, none⟩ 1 1 [x] rfl (by
      intro j u hu
      have hb0 := heap_alloc_new w (.cells #[x] e)
      match j, hu with
      | 0, hu => simp at hu; subst hu; rw [show (Addr.add ⟨w.heap.size, 0, none⟩ 0 : Addr) = ⟨w.heap.size, 0, none⟩ from by simp [Addr.add], cell_of_row _ _ 0 _ _ _ hb0]; rfl
      | j + 1, hu => simp at hu) (by
      intro u hu
      simp only [List.mem_cons, List.not_mem_nil, or_false] at hu
      subst hu
      exact hx) (by unfold maxLen; omega) (by omega) (Nat.zero_le _)
  refine ⟨v', w', hr, hown, ((Upd.refl _ _).alloc _).grown hgr (fun k hk _ => hk), fun k hk => ?_⟩
  rcases hat with h1 | h1
  · exact .inl (h1 ▸ hk)
  · rw [h1] at hk
    right
    simp at hk
    omega

theorem Tryz.infoPD : (Tryz.prog.info? 49).map (fun i => (i.zero, i.size, i.bytes)) = some (some (.pointer none), 1, 8) := by kernel_rfl
theorem Tryz.infoPR : (Tryz.prog.info? 50).map (fun i => (i.zero, i.size, i.bytes)) = some (some (.pointer none), 1, 8) := by kernel_rfl

open Classical in
/-- One more disk, and the document's. -/
theorem WS.Mem.joined {B : Nat} {w w' : World} {S : WS} (h : S.Mem B w) (hB : B ≤ w.heap.size) {s : DS} {r : RS} {dv' rv' : Value} (hs : s.In w) (hr : r.In w) (hsn : ∀ k ∈ s.blocks, (∀ L, ¬ S.ownAt L k) ∧ B ≤ k) (hrn : ∀ k, r.own k → (∀ L, ¬ S.ownAt L k) ∧ B ≤ k) (hsr : ∀ k ∈ s.blocks, ¬ r.own k)
    (hu : Upd (fun k => k = S.p ∨ S.dv.ownBlock = some k ∨ S.rv.ownBlock = some k) w w') (htop : w'.heap[S.p]? = some (.cells (worldCells dv' rv' S.b) 48 (0, 0)))
    (hd : w'.ownsRow 0 49 1 dv' (S.ds.length + 1) (S.ds.map ptrD ++ [ptrD s])) (hrr : w'.ownsRow 0 50 1 rv' (S.rs.length + 1) (S.rs.map ptrR ++ [ptrR r]))
    (hdo : ∀ k, dv'.ownBlock = some k → S.dv.ownBlock = some k ∨ w.heap.size ≤ k) (hro : ∀ k, rv'.ownBlock = some k → S.rv.ownBlock = some k ∨ w.heap.size ≤ k) (hdr : ∀ k, dv'.ownBlock = some k → ¬ rv'.ownBlock = some k) :
    WS.Mem B w' { S with dv := dv', rv := rv', ds := S.ds ++ [s], rs := S.rs ++ [r] } := by
  obtain ⟨lab, hl⟩ := h.lab
  have hsel0 : ∀ L k, S.ownAt L k → L ≠ 0 → ¬ (k = S.p ∨ S.dv.ownBlock = some k ∨ S.rv.ownBlock = some k) := by
    intro L k h1 h2 e
    rcases e with e | e | e
    · exact h2 (h.other h1 (.inl ⟨rfl, .inl e⟩))
    · exact h2 (h.other h1 (.inl ⟨rfl, .inr (.inl e)⟩))
    · exact h2 (h.other h1 (.inl ⟨rfl, .inr (.inr (.inl e))⟩))
  have hnew : ∀ k, (∀ L, ¬ S.ownAt L k) → ¬ (k = S.p ∨ S.dv.ownBlock = some k ∨ S.rv.ownBlock = some k) := by
    intro k h1 e
    rcases e with e | e | e
    · exact h1 0 (.inl ⟨rfl, .inl e⟩)
    · exact h1 0 (.inl ⟨rfl, .inr (.inl e)⟩)
    · exact h1 0 (.inl ⟨rfl, .inr (.inr (.inl e))⟩)
  have hbk : ∀ k, S.b.blk k → ¬ (k = S.p ∨ S.dv.ownBlock = some k ∨ S.rv.ownBlock = some k) := by
    intro k h1 e
    rcases e with e | e | e
    · exact h.bp (e ▸ h1)
    · exact (h.dr k e).2 h1
    · exact h.rb k e h1
  have hdsAt : ∀ j (hj : j < (S.ds ++ [s]).length), (∃ hj' : j < S.ds.length, (S.ds ++ [s])[j] = S.ds[j]) ∨ (j = S.ds.length ∧ (S.ds ++ [s])[j] = s) := by
    intro j hj
    by_cases e : j < S.ds.length
    · exact .inl ⟨e, List.getElem_append_left e⟩
    · have e2 : j = S.ds.length := by simp at hj; omega
      subst e2
      exact .inr ⟨rfl, by simp⟩
  have hrsAt : ∀ j (hj : j < (S.rs ++ [r]).length), (∃ hj' : j < S.rs.length, (S.rs ++ [r])[j] = S.rs[j]) ∨ (j = S.rs.length ∧ (S.rs ++ [r])[j] = r) := by
    intro j hj
    by_cases e : j < S.rs.length
    · exact .inl ⟨e, List.getElem_append_left e⟩
    · have e2 : j = S.rs.length := by simp at hj; omega
      subst e2
      exact .inr ⟨rfl, by simp⟩
  have hown : ∀ L k, ({ S with dv := dv', rv := rv', ds := S.ds ++ [s], rs := S.rs ++ [r] } : WS).ownAt L k → S.ownAt L k ∨ (L = 0 ∧ w.heap.size ≤ k) ∨ (L = 2 * S.ds.length + 1 ∧ k ∈ s.blocks) ∨ (L = 2 * S.rs.length + 2 ∧ r.own k) := by
    intro L k hk
    rcases hk with ⟨rfl, hk⟩ | ⟨j, hj, e, hk⟩ | ⟨j, hj, e, hk⟩
    · rcases hk with hk | hk | hk | hk
      · exact .inl (.inl ⟨rfl, .inl hk⟩)
      · rcases hdo k hk with h1 | h1
        · exact .inl (.inl ⟨rfl, .inr (.inl h1)⟩)
        · exact .inr (.inl ⟨rfl, h1⟩)
      · rcases hro k hk with h1 | h1
        · exact .inl (.inl ⟨rfl, .inr (.inr (.inl h1))⟩)
        · exact .inr (.inl ⟨rfl, h1⟩)
      · exact .inl (.inl ⟨rfl, .inr (.inr (.inr hk))⟩)
    · have hk' : k ∈ ((S.ds ++ [s])[j]'hj).blocks := hk
      rcases hdsAt j hj with ⟨hj', e2⟩ | ⟨rfl, e2⟩
      · rw [e2] at hk'; exact .inl (.inr (.inl ⟨j, hj', e, hk'⟩))
      · rw [e2] at hk'; exact .inr (.inr (.inl ⟨e, hk'⟩))
    · have hk' : ((S.rs ++ [r])[j]'hj).own k := hk
      rcases hrsAt j hj with ⟨hj', e2⟩ | ⟨rfl, e2⟩
      · rw [e2] at hk'; exact .inl (.inr (.inr ⟨j, hj', e, hk'⟩))
      · rw [e2] at hk'; exact .inr (.inr (.inr ⟨e, hk'⟩))
  refine ⟨htop, by show w'.ownsRow 0 49 1 dv' (S.ds ++ [s]).length ((S.ds ++ [s]).map ptrD); rw [List.length_append, List.map_append]; exact hd, by show w'.ownsRow 0 50 1 rv' (S.rs ++ [r]).length ((S.rs ++ [r]).map ptrR); rw [List.length_append, List.map_append]; exact hrr,
    h.book.upd hu hbk, by show (S.rs ++ [r]).length = (S.ds ++ [s]).length; rw [List.length_append, List.length_append, h.len]; rfl, ?_, ?_, ⟨fun k => if k ∈ s.blocks then 2 * S.ds.length + 1 else if r.own k then 2 * S.rs.length + 2 else if k < w.heap.size then lab k else 0, ?_⟩, ?_, ?_, ?_, h.bp, ?_, ?_⟩
  · intro j hj
    show ((S.ds ++ [s])[j]'hj).In w'
    rcases hdsAt j hj with ⟨hj', e2⟩ | ⟨rfl, e2⟩
    · rw [e2]
      exact (h.dsIn j hj').upd hu (fun k hk => hsel0 (2 * j + 1) k (.inr (.inl ⟨j, hj', rfl, hk⟩)) (by omega))
    · rw [e2]
      exact hs.upd hu (fun k hk => hnew k (hsn k hk).1)
  · intro j hj
    show ((S.rs ++ [r])[j]'hj).In w'
    rcases hrsAt j hj with ⟨hj', e2⟩ | ⟨rfl, e2⟩
    · rw [e2]
      exact (h.rsIn j hj').upd hu (fun k hk => hsel0 (2 * j + 2) k (.inr (.inr ⟨j, hj', rfl, hk⟩)) (by omega))
    · rw [e2]
      exact hr.upd hu (fun k hk => hnew k (hrn k hk).1)
  · intro L k hk
    show (if k ∈ s.blocks then 2 * S.ds.length + 1 else if r.own k then 2 * S.rs.length + 2 else if k < w.heap.size then lab k else 0) = L
    rcases hown L k hk with h1 | ⟨rfl, h1⟩ | ⟨rfl, h1⟩ | ⟨rfl, h1⟩
    · rw [if_neg (fun hm => (hsn k hm).1 L h1), if_neg (fun hm => (hrn k hm).1 L h1), if_pos (h.lt h1)]
      exact hl L k h1
    · rw [if_neg (fun hm => by have := hs.lt k hm; omega), if_neg (fun hm => by have := hr.lt hm; omega), if_neg (by omega)]
    · rw [if_pos h1]
    · rw [if_neg (fun hm => hsr k hm h1), if_pos h1]
  · intro L k hk
    rcases hown L k hk with h1 | ⟨rfl, h1⟩ | ⟨rfl, h1⟩ | ⟨rfl, h1⟩
    · exact h.low L k h1
    · omega
    · exact (hsn k h1).2
    · exact (hrn k h1).2
  · intro e
    rcases hdo _ e with h1 | h1
    · exact h.dp h1
    · have h2 := lt_of_heap h.top; have h3 : w.heap.size ≤ S.p := h1; omega
  · intro e
    rcases hro _ e with h1 | h1
    · exact h.rp h1
    · have h2 := lt_of_heap h.top; have h3 : w.heap.size ≤ S.p := h1; omega
  · intro k hk
    refine ⟨hdr k hk, fun hb => ?_⟩
    rcases hdo k hk with h1 | h1
    · exact (h.dr k h1).2 hb
    · have := h.book.lt k hb; omega
  · intro k hk hb
    rcases hro k hk with h1 | h1
    · exact h.rb k h1 hb
    · have := h.book.lt k hb; omega

end Go.Proofs.YtohpgmeflmppaaaGreat

namespace Go.Proofs.YtohpgmeflmppaaaGreat
set_option linter.unusedVariables false
set_option linter.unusedSimpArgs false
set_option linter.unnecessarySimpa false
set_option linter.unusedSectionVars false
open Go Go.RowKit

set_option maxRecDepth 100000 in
set_option maxHeartbeats 800000 in
theorem joins_no (w : World) (p : Nat) (e : Int) (he : e ≠ 0) :
    Calls Tryz.prog 60 #[.pointer (some ⟨p, 0, none⟩), .pointer none, .int .i64 e, .pointer none, .int .i64 e] w fun x w' => x = .returned (.bool true) ∧ w' = w := by
  have hb : (e != 0) = true := by simpa using he
  have hb2 : (e == 0) = false := by simpa using he
  go_enter Tryz.func60, Tryz.ntmps60
  go_wp2_with (go_at_call 9; refine (num_any _ _).mono ?_; rintro x w' ⟨rfl, hww⟩; obtain rfl := hww.symm)
  go_ret
  exact ⟨rfl, rfl⟩

set_option maxRecDepth 100000 in
set_option maxHeartbeats 1600000 in
theorem joins_yes {w0 w : World} {S : WS} {s : DS} {r : RS} (hw : WOn w0 w S) (hlen : S.ds.length < 5) (hs : s.In w) (hr : r.In w) (hsn : ∀ k ∈ s.blocks, (∀ L, ¬ S.ownAt L k) ∧ w0.heap.size ≤ k) (hrn : ∀ k, r.own k → (∀ L, ¬ S.ownAt L k) ∧ w0.heap.size ≤ k)
    (hsr : ∀ k ∈ s.blocks, ¬ r.own k) (ha : Alike s.abs r.abs) (hso : Sorted r.F) :
    Calls Tryz.prog 60 #[.pointer (some ⟨S.p, 0, none⟩), ptrD s, .int .i64 0, ptrR r, .int .i64 0] w fun x w' => x = .returned (.bool true) ∧ ∃ dv' rv', WOn w0 w' { S with dv := dv', rv := rv', ds := S.ds ++ [s], rs := S.rs ++ [r] } ∧ ∀ N, N ≤ w.heap.size → (∀ k ∈ s.blocks, N ≤ k) → (∀ k, r.own k → N ≤ k) → Turn N w w' S { S with dv := dv', rv := rv', ds := S.ds ++ [s], rs := S.rs ++ [r] } := by
  have hm := hw.mem
  have htop := hm.top
  have hpl := lt_of_heap htop
  obtain ⟨da, dc, hdv, -, -⟩ := owns_shape hm.rowD
  obtain ⟨ra, rc, hrv, -, -⟩ := owns_shape hm.rowR
  have c0 : w.cell? ⟨S.p, 0, none⟩ = some (.slice da S.ds.length dc) := by rw [cell_of_row w _ 0 _ _ _ htop, ← hdv]; rfl
  have f0 : w.frozen? ⟨S.p, 0, none⟩ = false := frozen_of_row w _ _ _ _ htop
  -- the program's
  obtain ⟨dv', w1, hrun1, hrow1, hu1, ho1⟩ := run_append_one Tryz.infoPD Tryz.underlying43 hm.rowD (by omega) (show (ptrD s).oneCell' = true from rfl) 43
  obtain ⟨da1, dc1, hdv1, -, -⟩ := owns_shape hrow1
  have htop1 := hu1.get htop hm.dp
  have htop2 := heap_setCell_at w1 S.p 0 _ _ dv' htop1
  have hu2 : Upd (fun k => k = S.p ∨ S.dv.ownBlock = some k) w (w1.setCell ⟨S.p, 0, none⟩ dv') := (hu1.mono (T := fun k => k = S.p ∨ S.dv.ownBlock = some k) (fun _ _ h => .inr h)).setCell (p := ⟨S.p, 0, none⟩) (fun _ => .inl rfl) dv'
  have hdp' : ¬ dv'.ownBlock = some S.p := fun e => (ho1 _ e).elim hm.dp (fun h => by omega)
  have hrow2 : (w1.setCell ⟨S.p, 0, none⟩ dv').ownsRow 0 49 1 dv' (S.ds.length + 1) (S.ds.map ptrD ++ [ptrD s]) := owns_upd hrow1 (Upd.cell_only w1 S.p 0 dv') (fun k hk e => hdp' (e ▸ hk))
  obtain ⟨w2, hw2⟩ : ∃ w2, w2 = w1.setCell ⟨S.p, 0, none⟩ dv' := ⟨_, rfl⟩
  rw [← hw2] at htop2 hu2 hrow2
  have hrowR2 : w2.ownsRow 0 50 1 S.rv S.rs.length (S.rs.map ptrR) := owns_upd hm.rowR hu2 (fun k hk e => e.elim (fun e => hm.rp (e ▸ hk)) (fun e => (hm.dr k e).1 hk))
  -- the document's
  have hlr := hm.len
  obtain ⟨rv', w3, hrun3, hrow3, hu3, ho3⟩ := run_append_one Tryz.infoPR Tryz.underlying44 hrowR2 (by omega) (show (ptrR r).oneCell' = true from rfl) 44
  obtain ⟨ra3, rc3, hrv3, -, -⟩ := owns_shape hrow3
  have htop3 := hu3.get htop2 hm.rp
  have htop4 := heap_setCell_at w3 S.p 1 _ _ rv' htop3
  have hs2 := hu2.size
  have hs3 := hu3.size
  have hrp' : ¬ rv'.ownBlock = some S.p := fun e => (ho3 _ e).elim hm.rp (fun h => by omega)
  have hdr' : ∀ k, dv'.ownBlock = some k → ¬ rv'.ownBlock = some k := by
    intro k h1 h2
    rcases ho3 k h2 with h3 | h3
    · rcases ho1 k h1 with h4 | h4
      · exact (hm.dr k h4).1 h3
      · have := (hm.rowR.lt k h3).2; omega
    · have := (hrow2.lt k h1).2; omega
  have hrowD4 : (w3.setCell ⟨S.p, 1, none⟩ rv').ownsRow 0 49 1 dv' (S.ds.length + 1) (S.ds.map ptrD ++ [ptrD s]) := by
    refine owns_upd (owns_upd hrow2 hu3 (fun k hk e => ?_)) (Upd.cell_only w3 S.p 1 rv') (fun k hk e => hdp' (e ▸ hk))
    rcases ho1 k hk with h4 | h4
    · exact (hm.dr k h4).1 e
    · have := (hm.rowR.lt k e).2; omega
  have hrowR4 : (w3.setCell ⟨S.p, 1, none⟩ rv').ownsRow 0 50 1 rv' (S.rs.length + 1) (S.rs.map ptrR ++ [ptrR r]) := owns_upd hrow3 (Upd.cell_only w3 S.p 1 rv') (fun k hk e => hrp' (e ▸ hk))
  have hu4 : Upd (fun k => k = S.p ∨ S.dv.ownBlock = some k ∨ S.rv.ownBlock = some k) w (w3.setCell ⟨S.p, 1, none⟩ rv') := by
    refine Upd.setCell (p := ⟨S.p, 1, none⟩) ?_ (fun _ => .inl rfl) _
    exact (hu2.mono (T := fun k => k = S.p ∨ S.dv.ownBlock = some k ∨ S.rv.ownBlock = some k) (fun k _ h => h.elim .inl (fun h => .inr (.inl h)))).trans hu3 (fun k _ h => .inr (.inr h))
  have m4 := hm.joined hw.upd.size hs hr hsn hrn hsr hu4 htop4 hrowD4 hrowR4 ho1 (fun k hk => (ho3 k hk).elim .inl (fun h => .inr (by omega))) hdr'
  have hfin : WOn w0 (w3.setCell ⟨S.p, 1, none⟩ rv') { S with dv := dv', rv := rv', ds := S.ds ++ [s], rs := S.rs ++ [r] } := by
    refine ⟨m4, hw.upd.trans hu4 (fun k hk e => ?_), ?_, by show (S.ds ++ [s]).length ≤ 5; rw [List.length_append]; show S.ds.length + 1 ≤ 5; omega⟩
    · rcases e with e | e | e
      · have := hm.low 0 k (.inl ⟨rfl, .inl e⟩); omega
      · have := hm.low 0 k (.inl ⟨rfl, .inr (.inl e)⟩); omega
      · have := hm.low 0 k (.inl ⟨rfl, .inr (.inr (.inl e))⟩); omega
    · intro j hj hj'
      show Alike ((S.ds ++ [s])[j]'hj).abs ((S.rs ++ [r])[j]'hj').abs ∧ Sorted ((S.rs ++ [r])[j]'hj').F
      by_cases e : j < S.ds.length
      · rw [List.getElem_append_left e, List.getElem_append_left (by omega)]
        exact hw.pair j e (by omega)
      · have e2 : j = S.ds.length := by have h1 : j < (S.ds ++ [s]).length := hj; simp at h1; omega
        subst e2
        have e3 : (S.rs ++ [r])[S.ds.length]'hj' = r := by
          have h2 : (S.rs ++ [r])[S.ds.length]? = some r := by rw [← hlr]; simp
          rw [List.getElem?_eq_getElem hj'] at h2
          exact Option.some.inj h2
        rw [e3]
        have e4 : (S.ds ++ [s])[S.ds.length]'hj = s := by simp
        rw [e4]
        exact ⟨ha, hso⟩
  have hturn : ∀ N, N ≤ w.heap.size → (∀ k ∈ s.blocks, N ≤ k) → (∀ k, r.own k → N ≤ k) → Turn N w (w3.setCell ⟨S.p, 1, none⟩ rv') S { S with dv := dv', rv := rv', ds := S.ds ++ [s], rs := S.rs ++ [r] } := by
    intro N hN1 hN2 hN3
    refine ⟨hu4.mono (fun k _ h => ?_), fun L k h => ?_⟩
    · rcases h with h | h | h
      · exact .inl ⟨0, .inl ⟨rfl, .inl h⟩⟩
      · exact .inl ⟨0, .inl ⟨rfl, .inr (.inl h)⟩⟩
      · exact .inl ⟨0, .inl ⟨rfl, .inr (.inr (.inl h))⟩⟩
    · rcases h with ⟨e, h⟩ | ⟨j, hj, e, h⟩ | ⟨j, hj, e, h⟩
      · rcases h with h | h | h | h
        · exact .inl ⟨0, .inl ⟨rfl, .inl h⟩⟩
        · rcases ho1 k h with h1 | h1
          · exact .inl ⟨0, .inl ⟨rfl, .inr (.inl h1)⟩⟩
          · exact .inr (Nat.le_trans hN1 h1)
        · rcases ho3 k h with h1 | h1
          · exact .inl ⟨0, .inl ⟨rfl, .inr (.inr (.inl h1))⟩⟩
          · exact .inr (by omega)
        · exact .inl ⟨0, .inl ⟨rfl, .inr (.inr (.inr h))⟩⟩
      · have h' : k ∈ ((S.ds ++ [s])[j]'hj).blocks := h
        by_cases e2 : j < S.ds.length
        · rw [List.getElem_append_left e2] at h'
          exact .inl ⟨2 * j + 1, .inr (.inl ⟨j, e2, rfl, h'⟩)⟩
        · have e3 : j = S.ds.length := by have h1 : j < (S.ds ++ [s]).length := hj; simp at h1; omega
          subst e3
          have e4 : (S.ds ++ [s])[S.ds.length]'hj = s := by simp
          rw [e4] at h'
          exact .inr (hN2 k h')
      · have h' : ((S.rs ++ [r])[j]'hj).own k := h
        by_cases e2 : j < S.rs.length
        · rw [List.getElem_append_left e2] at h'
          exact .inl ⟨2 * j + 2, .inr (.inr ⟨j, e2, rfl, h'⟩)⟩
        · have e3 : j = S.rs.length := by have h1 : j < (S.rs ++ [r]).length := hj; simp at h1; omega
          subst e3
          have e4 : (S.rs ++ [r])[S.rs.length]'hj = r := by simp
          rw [e4] at h'
          exact .inr (hN3 k h')
  have g1 : w2.cell? ⟨S.p, 1, none⟩ = some (.slice ra S.rs.length rc) := by rw [cell_of_row w2 _ 1 _ _ _ htop2, ← hrv]; rfl
  have g1f : w2.frozen? ⟨S.p, 1, none⟩ = false := frozen_of_row w2 _ _ _ _ htop2
  have k0 : w1.cell? ⟨S.p, 0, none⟩ = some (.slice da S.ds.length dc) := by rw [cell_of_row w1 _ 0 _ _ _ htop1, ← hdv]; rfl
  have k0f : w1.frozen? ⟨S.p, 0, none⟩ = false := frozen_of_row w1 _ _ _ _ htop1
  have k1 : w3.cell? ⟨S.p, 1, none⟩ = some (.slice ra S.rs.length rc) := by rw [cell_of_row w3 _ 1 _ _ _ htop3, ← hrv]; rfl
  have k1f : w3.frozen? ⟨S.p, 1, none⟩ = false := frozen_of_row w3 _ _ _ _ htop3
  have hp1 : S.p < w1.heap.size := lt_of_heap htop1
  have hp2 : S.p < w2.heap.size := lt_of_heap htop2
  have hp3 : S.p < w3.heap.size := lt_of_heap htop3
  obtain ⟨ND, hND⟩ : ∃ ND, ND = S.ds.length + 1 := ⟨_, rfl⟩
  obtain ⟨NR, hNR⟩ : ∃ NR, NR = S.rs.length + 1 := ⟨_, rfl⟩
  rw [← hND] at hdv1
  rw [← hNR] at hrv3
  rw [hdv, hdv1] at hrun1
  rw [hrv, hrv3] at hrun3
  rw [hdv1] at hw2
  rw [hrv3] at hfin hturn
  have HRUN1 := hid hrun1; have HRUN3 := hid hrun3; have HW2 := hid hw2; have HF := hid hfin; have HTU := hid hturn
  unfold ptrD at HRUN1 ⊢
  unfold ptrR at HRUN3 ⊢
  clear hm htop hdv hrv hrun1 hrow1 hu1 ho1 hdv1 htop1 htop2 hu2 hdp' hrow2 hw2 hrowR2 hlr hrun3 hrow3 hu3 ho3 hrv3 htop3 htop4 hs2 hs3 hrp' hdr' hrowD4 hrowR4 hu4 m4 hfin hND hNR hw hs hr hsn hrn hsr ha hso hturn
  go_enter Tryz.func60, Tryz.ntmps60
  go_upto_region 4 with (go_at_call 9; refine (num_any _ _).mono ?_; rintro x w' ⟨rfl, hww⟩; obtain rfl := hww.symm)
  go_upto_region 5 with (at_builtin; refine wpList_append_run rfl _ _ _ rfl rfl rfl HRUN1.out ?_)
  rw [← HW2.out]
  go_wp2_with (at_builtin; refine wpList_append_run rfl _ _ _ rfl rfl rfl HRUN3.out ?_)
  go_ret
  exact ⟨rfl, _, _, HF.out, HTU.out⟩

end Go.Proofs.YtohpgmeflmppaaaGreat

namespace Go.Proofs.YtohpgmeflmppaaaGreat
set_option linter.unusedVariables false
set_option linter.unusedSimpArgs false
set_option linter.unnecessarySimpa false
set_option linter.unusedSectionVars false
open Go Go.RowKit

/-- What a call leaves that may make a disk. -/
def ActedM (w0 w : World) (S : WS) (most : Int) (e : Ending) (w' : World) : Prop := e = .returned (.bool true) ∧ ∃ S', WOn w0 w' S' ∧ S'.p = S.p ∧ S.ds.length ≤ S'.ds.length ∧ S'.b.n ≤ S.b.n + most ∧ (Calm S → Calm S') ∧ Turn w.heap.size w w' S S'

theorem Calm.snoc {S : WS} (h : Calm S) {s : DS} (h2 : s.abs.down = false ∧ s.abs.armed = 0) (dv' rv' : Value) (rs' : List RS) : Calm { S with dv := dv', rv := rv', ds := S.ds ++ [s], rs := rs' } := by
  intro j hj
  show ((S.ds ++ [s])[j]'hj).abs.down = false ∧ ((S.ds ++ [s])[j]'hj).abs.armed = 0
  by_cases e : j < S.ds.length
  · rw [List.getElem_append_left e]
    exact h j e
  · have e2 : j = S.ds.length := by have h1 : j < (S.ds ++ [s]).length := hj; simp at h1; omega
    subst e2
    have e4 : (S.ds ++ [s])[S.ds.length]'hj = s := by simp
    rw [e4]
    exact h2

theorem WOn.noOwner {w0 w : World} {S : WS} (h : WOn w0 w S) {k : Nat} (hk : w.heap.size ≤ k) : (∀ L, ¬ S.ownAt L k) ∧ w0.heap.size ≤ k := ⟨fun L h1 => by have := h.mem.lt h1; omega, Nat.le_trans h.upd.size hk⟩

set_option maxRecDepth 100000 in
set_option maxHeartbeats 1600000 in
theorem makes_full {w0 w : World} {S : WS} {o : OpI} (i : Int) (hw : WOn w0 w S) (ho : OpShapes o) (hfull : 5 ≤ S.ds.length) :
    Calls Tryz.prog 44 #[.pointer (some ⟨S.p, 0, none⟩), .agg o.cells, .int .i64 i] w fun e w' => ActedM w0 w S 0 e w' := by
  obtain ⟨ba, bc, ca, cl, cc, fa, fl, fc, hb1, hc1, hf1⟩ := ho.get
  have hcells : o.cells = #[.int .i64 o.kind, .int .i64 o.obj, .string o.name, .string o.dest, .slice ba o.bs.length bc, .int .i64 o.pos, .int .i64 o.n, .slice ca cl cc, .slice fa fl fc] := by unfold OpI.cells; rw [hb1, hc1, hf1]
  rw [hcells]
  obtain ⟨da, dc, hdv, -, -⟩ := owns_shape hw.mem.rowD
  have htop := hw.mem.top
  have hpl := lt_of_heap htop
  have hub : Upd (fun _ => False) w (w.alloc (.cells #[.int .i64 o.kind, .int .i64 o.obj, .string o.name, .string o.dest, .slice ba o.bs.length bc, .int .i64 o.pos, .int .i64 o.n, .slice ca cl cc, .slice fa fl fc] 42)) := (Upd.refl _ _).alloc _
  have c0 : (w.alloc (.cells #[.int .i64 o.kind, .int .i64 o.obj, .string o.name, .string o.dest, .slice ba o.bs.length bc, .int .i64 o.pos, .int .i64 o.n, .slice ca cl cc, .slice fa fl fc] 42)).cell? ⟨S.p, 0, none⟩ = some (.slice da S.ds.length dc) := by rw [cell_of_row _ _ 0 _ _ _ (hub.get htop (fun h => h)), ← hdv]; rfl
  have c0w : w.cell? ⟨S.p, 0, none⟩ = some (.slice da S.ds.length dc) := by rw [cell_of_row w _ 0 _ _ _ htop, ← hdv]; rfl
  have hfew := hw.few
  have hfull' : (5 : Int) ≤ (S.ds.length : Int) := by omega
  have HW := hid hw; have HUB := hid hub
  clear hw ho hb1 hc1 hf1 hcells hdv htop hub c0
  go_enter Tryz.func44, Tryz.ntmps44
  go_wp2
  go_ret
  exact ⟨rfl, S, HW.out.keep HUB.out, rfl, Nat.le_refl _, by omega, id, Turn.keep _ _ HUB.out⟩

set_option maxRecDepth 100000 in
set_option maxHeartbeats 1600000 in
theorem makes_new {w0 w : World} {S : WS} {o : OpI} (i : Int) (hw : WOn w0 w S) (ho : OpShapes o) (hroom : S.ds.length < 5) (hk : o.kind = 17) :
    Calls Tryz.prog 44 #[.pointer (some ⟨S.p, 0, none⟩), .agg o.cells, .int .i64 i] w fun e w' => ActedM w0 w S 0 e w' := by
  obtain ⟨ba, bc, ca, cl, cc, fa, fl, fc, hb1, hc1, hf1⟩ := ho.get
  have hcells : o.cells = #[.int .i64 17, .int .i64 o.obj, .string o.name, .string o.dest, .slice ba o.bs.length bc, .int .i64 o.pos, .int .i64 o.n, .slice ca cl cc, .slice fa fl fc] := by unfold OpI.cells; rw [hk, hb1, hc1, hf1]
  rw [hcells]
  obtain ⟨da, dc, hdv, -, -⟩ := owns_shape hw.mem.rowD
  have htop := hw.mem.top
  have hpl := lt_of_heap htop
  have c0w : w.cell? ⟨S.p, 0, none⟩ = some (.slice da S.ds.length dc) := by rw [cell_of_row w _ 0 _ _ _ htop, ← hdv]; rfl
  have hroom' : ¬ (5 : Int) ≤ (S.ds.length : Int) := by omega
  have HW := hid hw
  clear hw ho hb1 hc1 hf1 hcells hdv htop hk
  go_enter Tryz.func44, Tryz.ntmps44
  go_upto_region 5 with fail
  obtain ⟨wb, hwb⟩ : ∃ wb, wb = w.alloc (.cells #[.int .i64 17, .int .i64 o.obj, .string o.name, .string o.dest, .slice ba o.bs.length bc, .int .i64 o.pos, .int .i64 o.n, .slice ca cl cc, .slice fa fl fc] 42) := ⟨_, rfl⟩
  rw [← hwb]
  obtain ⟨fb, hfb⟩ : ∃ fb, fb = w.heap.size := ⟨_, rfl⟩
  rw [← hfb]
  have hbx : wb.heap[fb]? = some (.cells #[.int .i64 17, .int .i64 o.obj, .string o.name, .string o.dest, .slice ba o.bs.length bc, .int .i64 o.pos, .int .i64 o.n, .slice ca cl cc, .slice fa fl fc] 42 (0, 0)) := by rw [hwb, hfb]; exact heap_alloc_new w _
  have hub : Upd (fun _ => False) w wb := by rw [hwb]; exact (Upd.refl _ _).alloc _
  have HWB := hid (HW.out.keep hub); have HBX := hid hbx; have HUB := hid hub
  have b6 : wb.cell? ⟨fb, 6, none⟩ = some (.int .i64 o.n) := by rw [cell_of_row wb _ 6 _ _ _ hbx]; rfl
  have hfl : fb < wb.heap.size := lt_of_heap hbx
  clear hwb hfb hbx hub c0w hpl
  by_cases hcap : o.n < 0 ∨ 67108864 < o.n
  · have HN := hid (new_no wb o.n hcap); have HN2 := hid (refNew_no wb o.n hcap)
    clear hcap
    go_upto_region 6 with (go_at_call 34; refine HN.out.mono ?_; rintro e w' ⟨rfl, hww⟩; obtain rfl := hww.symm)
    go_upto_region 7 with (go_at_call 35; refine HN2.out.mono ?_; rintro e w' ⟨rfl, hww⟩; obtain rfl := hww.symm)
    go_wp2_with fail
    refine (joins_no wb S.p 1 (by decide)).mono ?_
    rintro x w' ⟨rfl, hww⟩
    obtain rfl := hww.symm
    go_wp2
    go_ret
    exact ⟨rfl, S, HWB.out, rfl, Nat.le_refl _, by omega, id, Turn.keep _ _ HUB.out⟩
  · obtain ⟨n, hn⟩ : ∃ n : Nat, o.n = (n : Int) := ⟨o.n.toNat, by omega⟩
    rw [hn] at b6
    have hn2 : n ≤ 67108864 := by omega
    clear hcap hn
    go_wp2_with fail
    refine (new_yes wb n hn2).mono ?_
    rintro e w2 ⟨s, rfl, hs1, hs2, hs3, hs4⟩
    have b6' : w2.cell? ⟨fb, 6, none⟩ = some (.int .i64 n) := (World.cell?_of_block (a := ⟨fb, 6, none⟩) (hs4.block fb hfl (fun h => h))).trans b6
    have hfl2 : fb < w2.heap.size := Nat.lt_of_lt_of_le hfl hs4.size
    have HS1 := hid hs1; have HS2 := hid hs2; have HS3 := hid hs3; have HW2 := hid (HWB.out.keep hs4); have HS4 := hid hs4
    clear hs1 hs2 hs3 hs4 b6
    go_wp2_with fail
    refine (refNew_yes w2 n hn2).mono ?_
    rintro e w3 ⟨r, rfl, r1, r2, r3, r4, r5, r6, r7, r8, r9⟩
    have hs3' := HS1.out.upd r9 (fun _ _ h => h)
    have hw3 := HW2.out.keep r9
    have hal : Alike s.abs r.abs := by rw [HS2.out]; exact ⟨r2.symm, by rw [show r.abs.files = r.F.map FV.abs from rfl, r3]; exact .refl _, r4.symm, r5.symm, r6.symm⟩
    have hj := joins_yes hw3 hroom hs3' r1 (fun k hk => ⟨fun L h1 => by have h2 := HWB.out.mem.lt h1; have := HS3.out k hk; omega, Nat.le_trans HWB.out.upd.size (HS3.out k hk)⟩)
      (fun k hk => ⟨fun L h1 => by have h2 := HW2.out.mem.lt h1; have := r8 k hk; omega, Nat.le_trans HW2.out.upd.size (r8 k hk)⟩) (fun k hk h1 => by have h2 := HS1.out.lt k hk; have := r8 k h1; omega) hal (by rw [r3]; simp [Sorted])
    have HJ := hid hj
    have HR8 := hid (show (∀ k ∈ s.blocks, w.heap.size ≤ k) ∧ (∀ k, r.own k → w.heap.size ≤ k) ∧ Upd (fun _ => False) w w3 from ⟨fun k hk => Nat.le_trans HUB.out.size (HS3.out k hk), fun k hk => Nat.le_trans HUB.out.size (Nat.le_trans HS4.out.size (r8 k hk)), (HUB.out.trans HS4.out (fun _ _ h => h)).trans r9 (fun _ _ h => h)⟩)
    unfold ptrD ptrR at HJ
    clear r1 r2 r3 r4 r5 r6 r7 r8 r9 hs3' hw3 hal hj
    go_wp2_with fail
    refine HJ.out.mono ?_
    rintro x w4 ⟨rfl, dv', rv', hfin, htu⟩
    have HF := hid hfin
    have HTU := hid ((Turn.keep w.heap.size S HR8.out.2.2).trans (htu w.heap.size HR8.out.2.2.size HR8.out.1 HR8.out.2.1))
    clear hfin htu
    go_wp2
    go_ret
    exact ⟨rfl, _, HF.out, rfl, by simp, by show S.b.n ≤ S.b.n + 0; omega, fun hc => hc.snoc (by rw [HS2.out]; exact ⟨rfl, rfl⟩) _ _ _, HTU.out⟩

end Go.Proofs.YtohpgmeflmppaaaGreat
