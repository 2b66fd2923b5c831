/-
  makes, walked: Load.
-/
import Derived.Test.YtohpgmeflmppaaaGreatGT
namespace Go.Proofs.YtohpgmeflmppaaaGreat
set_option linter.unusedVariables false
set_option linter.unusedSimpArgs false
set_option linter.unnecessarySimpa false
set_option linter.unusedSectionVars false
open Go Go.RowKit

theorem Laid.loose {w0 w w3 : World} {N1 n : Nat} {S : WS} {lv wv : Value} {L : List LF} {more : List Value} (h : Laid w3 N1 lv wv L n more) (hw : WOn w0 w S) (hN : w.heap.size ≤ N1) (hs : w.heap.size ≤ w3.heap.size) : Loose w0 w3 w.heap.size S (fun _ => False) (L.map LF.wide) := by
  refine ⟨fun L q hq => hw.mem.lt hq, hw.upd.size, hs, fun v hv q hq => ?_, fun i j hi hj hij q h1 h2 => ?_, fun q h => h.elim⟩
  · obtain ⟨x, hx, rfl⟩ := List.mem_map.1 hv
    have e : x.g = q := by simpa [LF.wide, Value.ownBlock] using hq
    subst e
    exact ⟨Nat.le_trans hN (h.low.2.2 x hx), h.lt hx⟩
  · simp only [List.getElem_map, LF.wide, Value.ownBlock, Option.some.injEq] at h1 h2
    have hnd := h.nodup
    have e : (L.map LF.g)[i]'(by simpa using hi) = (L.map LF.g)[j]'(by simpa using hj) := by simp only [List.getElem_map]; omega
    exact (List.pairwise_iff_getElem.1 hnd) i j (by simpa using hi) (by simpa using hj) hij e

/-- The files that were laid read as those they were made of. -/
theorem Laid.filesIn {w : World} {N lc : Nat} {la : Option Addr} {wv : Value} {L : List LF} {more : List Value} (h : Laid w N (.slice la (L.length + 1) lc) wv L (L.length + 1) more) (hm : more.length = 3) (hc : L.length + 1 ≤ lc) (hlc : lc ≤ 9223372036854775807) :
    FilesIn w (.slice la L.length lc) (L.map LF.toI) := by
  obtain ⟨a, c, hs, -, -, hlen, hat⟩ := row_shape3 h.rowL
  injection hs with e1 e2 e3
  subst e1 e3
  refine ⟨⟨la, lc, by simp, by simp; omega, hlc, fun k hk => ?_⟩, fun f hf => ?_, fun f hf a m c e h0 => ?_⟩
  · have hk' : k < L.length := by simpa using hk
    have hfl : ∀ (l : List LF) (k : Nat) (hk : k < l.length) (j : Nat) (hj : j < 3), (l.flatMap LF.cells ++ more)[k * 3 + j]? = l[k].cells[j]? := by
      intro l
      induction l with
      | nil => intro k hk; simp at hk
      | cons x t ih =>
        intro k hk j hj
        have hxl : x.cells.length = 3 := rfl
        cases k with
        | zero =>
          rw [Nat.zero_mul, Nat.zero_add, List.flatMap_cons, List.append_assoc, List.getElem?_append_left (by omega)]
          rfl
        | succ k =>
          rw [List.flatMap_cons, List.append_assoc, List.getElem?_append_right (by omega), hxl]
          have e3 : (k + 1) * 3 + j - 3 = k * 3 + j := by omega
          rw [e3, ih k (by simpa using hk) j hj]
          rfl
    have hlt : ∀ j, j < 3 → k * 3 + j < (L.flatMap LF.cells ++ more).length := fun j hj => by omega
    obtain ⟨g, e, hg2, -⟩ := hat _ (hlt 0 (by omega))
    have hc3 : ∀ j, j < 3 → w.cell? ⟨g, k * 3 + j, none⟩ = L[k].cells[j]? := fun j hj => by
      obtain ⟨g', e', -, hc⟩ := hat _ (hlt j hj)
      have e2 : g' = g := by rw [e] at e'; injection e' with e'; injection e' with e'; exact e'.symm
      subst e2
      rw [hc, ← hfl L k hk' j hj, List.getElem?_eq_getElem (hlt j hj)]
    refine ⟨g, 0, e, hg2, ?_, ?_, ?_⟩
    · simpa [LF.cells, LF.toI] using hc3 0 (by omega)
    · simpa [LF.cells, LF.toI] using hc3 1 (by omega)
    · simpa [LF.cells, LF.toI] using hc3 2 (by omega)
  · obtain ⟨x, hx, rfl⟩ := List.mem_map.1 hf
    have hd := (h.data x hx).bytes
    have hlen5 : (x.f.data ++ tail5).length = x.f.data.length + 5 := by simp [tail5]
    have h2 : BytesAt w (.slice (some ⟨x.g, 0, none⟩) (x.f.data ++ tail5).length x.cap) (x.f.data ++ tail5) := by rw [hlen5]; exact hd
    have h3 := h2.take (n := x.f.data.length) (by simp) x.cap (fun h => by cases h)
    rw [List.take_left] at h3
    exact h3
  · obtain ⟨x, hx, rfl⟩ := List.mem_map.1 hf
    have e' : LF.dv x = .slice (some a) m c := e
    unfold LF.dv at e'
    injection e' with e1 _ _
    injection e1 with e1
    subst e1
    exact h.lt hx

theorem toI_core {L : List LF} {l : List FileI} (h : L.map LF.f = l) : (L.map LF.toI).map FileI.core = l.map FileI.core := by
  rw [← h, List.map_map, List.map_map]
  rfl

set_option maxRecDepth 100000 in
set_option maxHeartbeats 6400000 in
theorem makes_load {w0 w : World} {S : WS} {o : OpI} (i : Int) (hw : WOn w0 w S) (ho : OpShapes o) (hroom : S.ds.length < 5) (hk : o.kind = 18) (hfi : FilesIn w0 o.fv o.files) (hfs : ∀ f ∈ o.files, f.data.length ≤ 16777216) (hfl : o.files.length ≤ 10000000)
    (hn : S.b.n + (o.files.length : Int) * 268435456 ≤ 4611686018427387904) :
    Calls Tryz.prog 44 #[.pointer (some ⟨S.p, 0, none⟩), .agg o.cells, .int .i64 i] w fun e w' => ActedM w0 w S ((o.files.length : Int) * 268435456) e w' := by
  obtain ⟨ba, bc, ca, cl, cc, fa, fl, fc, hb1, hc1, hf1⟩ := ho.get
  obtain ⟨fa', fc', hfv, hfl1, hfl2, -⟩ := hfi.shape
  obtain ⟨rfl, rfl, rfl⟩ : fa' = fa ∧ o.files.length = fl ∧ fc' = fc := by rw [hf1] at hfv; injection hfv with h1 h2 h3; exact ⟨h1.symm, h2.symm, h3.symm⟩
  have hcells : o.cells = #[.int .i64 18, .int .i64 o.obj, .string o.name, .string o.dest, .slice ba o.bs.length bc, .int .i64 o.pos, .int .i64 o.n, .slice ca cl cc, .slice fa' o.files.length fc'] := by unfold OpI.cells; rw [hk, hb1, hc1, hf1]
  rw [hcells]
  obtain ⟨da, dc, hdv, -, -⟩ := owns_shape hw.mem.rowD
  have htop := hw.mem.top
  have hpl := lt_of_heap htop
  have c0w : w.cell? ⟨S.p, 0, none⟩ = some (.slice da S.ds.length dc) := by rw [cell_of_row w _ 0 _ _ _ htop, ← hdv]; rfl
  have hroom' : ¬ (5 : Int) ≤ (S.ds.length : Int) := by omega
  have HW := hid hw; have HFI := hid hfi; have HF1 := hid hf1; have HFS := hid hfs; have HRM := hid hroom; have HNN := hid hn
  clear hw ho hb1 hc1 hf1 hcells hdv htop hk hfi hfv hfs hroom hn
  go_enter Tryz.func44, Tryz.ntmps44
  go_upto_region 19 with fail
  obtain ⟨wb, hwb⟩ : ∃ wb, wb = w.alloc (.cells #[.int .i64 18, .int .i64 o.obj, .string o.name, .string o.dest, .slice ba o.bs.length bc, .int .i64 o.pos, .int .i64 o.n, .slice ca cl cc, .slice fa' o.files.length fc'] 42) := ⟨_, rfl⟩
  rw [← hwb]
  obtain ⟨fb, hfb⟩ : ∃ fb, fb = w.heap.size := ⟨_, rfl⟩
  rw [← hfb]
  have hbx : wb.heap[fb]? = some (.cells #[.int .i64 18, .int .i64 o.obj, .string o.name, .string o.dest, .slice ba o.bs.length bc, .int .i64 o.pos, .int .i64 o.n, .slice ca cl cc, .slice fa' o.files.length fc'] 42 (0, 0)) := by rw [hwb, hfb]; exact heap_alloc_new w _
  have hub : Upd (fun _ => False) w wb := by rw [hwb]; exact (Upd.refl _ _).alloc _
  have HBX := hid hbx
  have hcell : ∀ W : World, W.heap[fb]? = wb.heap[fb]? → W.cell? ⟨fb, 6, none⟩ = some (.int .i64 o.n) ∧ W.cell? ⟨fb, 8, none⟩ = some (.slice fa' o.files.length fc') ∧ fb < W.heap.size := fun W hW => by
    have h := hW.trans HBX.out
    exact ⟨by rw [cell_of_row W _ 6 _ _ _ h]; rfl, by rw [cell_of_row W _ 8 _ _ _ h]; rfl, lt_of_heap h⟩
  have HCELL := hid hcell
  have hsz : wb.heap.size = w.heap.size + 1 := by rw [hwb]; simp
  have hfin : ∀ W, WOn w0 W S → FilesIn W (.slice fa' o.files.length fc') o.files := fun W hW => by have h := HFI.out.keep hW.upd; rw [HF1.out] at h; exact h
  have HFIN := hid hfin
  have HWB := hid (HW.out.keep hub); have HUB := hid hub; have HFB := hid hfb; have HSZ := hid hsz
  obtain ⟨b6, b8, hfbl⟩ := hcell wb rfl
  clear hwb hfb hbx hub hcell hsz hfin hpl c0w
  go_wp2_with fail
  refine (laid_any (HFIN.out wb HWB.out) (fun f hf => by have := HFS.out f hf; omega) hfl).mono ?_
  rintro e w1 ⟨L, la, lc, wv, rfl, hlc1, hlc2, hLf, hlaid, hu1⟩
  have hLl : L.length = o.files.length := by rw [← hLf]; simp
  obtain ⟨wa, wc, hwv, -, -⟩ := owns_shape hlaid.rowW
  rw [hwv] at hlaid ⊢
  have HLAID := hid hlaid; have HU1 := hid hu1; have HLF := hid hLf; have HLL := hid hLl
  have hw1 : WOn w0 w1 S := HWB.out.keep hu1
  have HW1 := hid hw1
  have hlin : FilesIn w1 (.slice la o.files.length lc) (L.map LF.toI) := by
    have h := hlaid
    rw [← hLl] at h ⊢
    exact h.filesIn rfl (by omega) hlc2
  have HLIN := hid hlin
  have hbf1 : w1.heap[fb]? = wb.heap[fb]? := hu1.block fb hfbl (fun h => h)
  obtain ⟨b6', b8', hfb1⟩ := HCELL.out w1 hbf1
  have HBF1 := hid hbf1
  clear hlaid hu1 hLf hwv hw1 hlin hbf1 b6 b8 hfbl hLl
  go_wp2_with fail
  have hload := load_any (cap := o.n) HLIN.out
  refine hload.mono ?_
  clear hload
  rintro e w2 hres
  obtain ⟨x, c, rfl⟩ := hres.split
  have HRES := hid hres
  have hu2 : Upd (fun _ => False) w1 w2 := hres.1
  have HU2 := hid hu2
  have hbf2 : w2.heap[fb]? = wb.heap[fb]? := (hu2.block fb hfb1 (fun h => h)).trans HBF1.out
  obtain ⟨b6, b8, hfb2⟩ := HCELL.out w2 hbf2
  have HBF2 := hid hbf2
  have HW2 := hid (HW1.out.keep hu2)
  clear hres hu2 hbf2 b6' b8'
  go_wp2_with fail
  have hload := refLoad_any (cap := o.n) (HFIN.out w2 HW2.out) (fun f hf => by have := HFS.out f hf; omega)
  refine hload.mono ?_
  clear hload
  rintro e w3 hres
  obtain ⟨y, c', rfl⟩ := hres.split
  have hcore : (L.map LF.toI).map FileI.core = o.files.map FileI.core := toI_core HLF.out
  have hla : loadA o.n (L.map LF.toI) = loadA o.n o.files := loadA_core hcore
  obtain ⟨rfl, hmade⟩ := made_loads (S := S) (fun L' q hq => HW1.out.mem.lt hq) (hla ▸ HRES.out) hres
  have hu3 : Upd (fun _ => False) w2 w3 := hres.1
  have hbf3 : w3.heap[fb]? = wb.heap[fb]? := (hu3.block fb hfb2 (fun h => h)).trans HBF2.out
  obtain ⟨b6', b8', hfb3⟩ := HCELL.out w3 hbf3
  have HW3 := hid (HW2.out.keep hu3)
  have hu13 : Upd (fun _ => False) w1 w3 := HU2.out.trans hu3 (fun _ _ h => h)
  have HLAID3 := hid (HLAID.out.keep hu13)
  have hlin3 : FilesIn w3 (.slice la o.files.length lc) (L.map LF.toI) := HLIN.out.keep hu13
  have hsame := sameFilesIn_any hlin3 (HFIN.out w3 HW3.out) hcore
  have HSAME := hid hsame; have HMADE := hid hmade; have HBF3 := hid hbf3
  have hu23 : w2.heap.size ≤ w3.heap.size := hu3.size
  have HU3 := hid hu3
  have HWIDE := hid (show ∀ v ∈ L.map LF.wide, ∀ q, v.ownBlock = some q → q < w1.heap.size from fun v hv q hq => by
    obtain ⟨x, hx, rfl⟩ := List.mem_map.1 hv
    have e : x.g = q := by simpa [LF.wide, Value.ownBlock] using hq
    subst e
    exact HLAID.out.lt hx)
  obtain ⟨la3, lc3, hs3, -, -, hlen3, hat3⟩ := row_shape3 HLAID3.out.rowL
  injection hs3 with e1 e2 e3
  subst e1 e3
  have hflen : (L.flatMap LF.cells).length = o.files.length * 3 := by
    rw [List.length_append] at hlen3
    simp at hlen3 ⊢
    have := HLL.out
    omega
  obtain ⟨gl, rfl, hgl, hmk⟩ := hat3 (o.files.length * 3) (by rw [List.length_append, hflen]; simp)
  rw [List.getElem_append_right (by omega)] at hmk
  have hmk' : w3.cell? ⟨gl, o.files.length * 3, none⟩ = some (.string ⟨#[109, 97, 114, 107]⟩) := by
    rw [hmk]
    simp [hflen]
  have HMK := hid hmk'
  clear hres hcore hla hmade hu3 hbf3 hu13 hlin3 hsame hlen3 hat3 hflen hmk hmk' b6 b8
  go_wp2_with fail
  refine HSAME.out.mono ?_
  rintro e w4 ⟨rfl, hdr⟩
  have hmk4 : w4.cell? ⟨gl, o.files.length * 3, none⟩ = some (.string ⟨#[109, 97, 114, 107]⟩) := (hdr.cell _).trans HMK.out
  have hgl4 : gl < w4.heap.size := by rw [hdr.2]; exact hgl
  have hc1i : (o.files.length : Int) + 1 ≤ (lc : Int) := by omega
  have hw1 : IntKind.i64.wrap ((o.files.length : Int) + 1) = (o.files.length : Int) + 1 := by rw [IntKind.wrap_i64]; omega
  have hw4 : WOn w0 w4 S := HW3.out.keep hdr.1
  have hla4 := HLAID3.out.keep hdr.1
  have hsz4 : w.heap.size ≤ w4.heap.size := Nat.le_trans HUB.out.size (Nat.le_trans HU1.out.size (Nat.le_trans HU2.out.size (by rw [hdr.2]; exact hu23)))
  have hmade4 : Made w1.heap.size w4 S x y c' := by
    rcases HMADE.out with h | ⟨s, r, h1, h2, h3, h4, h5, h6⟩
    · exact .inl h
    · exact .inr ⟨s, r, h1, h2, h3, h4.upd hdr.1 (fun _ _ h => h), h5.upd hdr.1 (fun _ _ h => h), h6⟩
  have hbf4 : w4.heap[fb]? = wb.heap[fb]? := (congrArg (fun h => h[fb]?) hdr.2).trans HBF3.out
  have hloose := hla4.loose HW.out HUB.out.size hsz4
  have HW4 := hid hw4; have HLA4 := hid hla4; have HMADE4 := hid hmade4; have HBF4 := hid hbf4; have HLOOSE := hid hloose
  have HU4 := hid (show Upd (fun _ => False) w w4 from ((HUB.out.trans HU1.out (fun _ _ h => h)).trans HU2.out (fun _ _ h => h)).trans (HU3.out.trans hdr.1 (fun _ _ h => h)) (fun _ _ h => h))
  have HSZ1 := hid (show w.heap.size ≤ w1.heap.size from Nat.le_trans HUB.out.size HU1.out.size)
  clear hdr hw4 hla4 hmade4 hbf4 hloose hsz4 e2
  go_wp2
  go_loopw [23, 24] (fun ok i wr => ∃ k : Nat, k ≤ L.length ∧ ok = .bool true ∧ i = .int .i64 k ∧ ∃ b, Strip w0 w4 wr w.heap.size S (fun _ => False) (L.map LF.wide) k b) (fun _ i _ => L.length - (intOf i).toNat)
  case atStart => exact ⟨0, Nat.zero_le _, rfl, rfl, S.b, Strip.start _ _ HW4.out⟩
  case round =>
    obtain ⟨k, hk, rfl, rfl, b, hst⟩ := hrel
    have HST := hid hst
    have hfiles := HFI.out.keep hst.on.upd
    rw [HF1.out] at hfiles
    have hfbT : ¬ (fb = S.p ∨ S.b.blk fb ∨ (∃ v ∈ (L.map LF.wide).take k, v.ownBlock = some fb) ∨ False) := by
      rintro (e | e | ⟨v, hv, e⟩ | e)
      · have := HW.out.mem.lt (L := 0) (.inl ⟨rfl, .inl e⟩); have := HFB.out; omega
      · have := HW.out.mem.lt (L := 0) (.inl ⟨rfl, .inr (.inr (.inr e))⟩); have := HFB.out; omega
      · obtain ⟨X, hX, rfl⟩ := List.mem_map.1 (List.mem_of_mem_take hv)
        have e' : X.g = fb := by simpa [LF.wide, Value.ownBlock] using e
        have := HLA4.out.low.2.2 X hX; have := HSZ.out; have := HFB.out; omega
      · exact e
    have hfb4 : fb < w4.heap.size := (HCELL.out w4 HBF4.out).2.2
    obtain ⟨-, c8, hfbr⟩ := HCELL.out wr ((hst.upd.block fb hfb4 hfbT).trans HBF4.out)
    by_cases hlt : k < L.length
    · have hltf : k < o.files.length := by have := HLL.out; omega
      obtain ⟨ao, oc, hoe, -, -, hcat⟩ := hfiles.shape
      obtain ⟨fbk, fo, hfe, hfbk, -, d1, -⟩ := hcat k hltf
      injection hoe with ho1 _ ho3
      subst ho3
      obtain rfl : fa' = some ⟨fbk, fo, none⟩ := ho1.trans hfe
      have hm := List.getElem_mem hltf
      have hby := hfiles.bytes _ hm
      have hfew := HFS.out _ hm
      have hlw := hfiles.low _ hm
      obtain ⟨X, hX⟩ : ∃ X, X = L[k] := ⟨_, rfl⟩
      have hXm : X ∈ L := by rw [hX]; exact List.getElem_mem hlt
      have hXf : o.files[k] = X.f := by
        have h := congrArg (fun l => l[k]?) HLF.out
        simp only [List.getElem?_map, List.getElem?_eq_getElem hlt, List.getElem?_eq_getElem hltf, Option.map_some, Option.some.injEq] at h
        rw [hX]; exact h.symm
      rw [hXf] at d1 hby hfew hlw
      obtain ⟨po, pc, hdv, -, -⟩ := id hby
      rw [hdv] at d1 hby hlw
      have HLW := hid hlw
      have hvk : (L.map LF.wide)[k]'(by simpa using hlt) = X.wide := by rw [hX]; simp
      have hd4 : DataIs w4 ((L.map LF.wide)[k]'(by simpa using hlt)) (X.f.data ++ tail5) := by rw [hvk]; exact HLA4.out.data X hXm
      have hnx := hst.next HLOOSE.out (by simpa using hlt) hd4
      have hstep := fun (wr' : World) (b' : BK) (hh : Strip w0 w4 wr' w.heap.size S (fun _ => False) (L.map LF.wide) k b) (w'' : World) (ht : Took wr' w'' S.p S.dv S.rv b b' ((L.map LF.wide)[k]'(by simpa using hlt))) => hh.step HLOOSE.out (by simpa using hlt) hd4 ht
      rw [hvk] at hnx hstep
      obtain ⟨hdk, hno, hnp, hnb⟩ := hnx
      obtain ⟨wa', wc', hwe, -, hwat⟩ := owns_shape HLA4.out.rowW
      obtain ⟨gw, hgwe, -, hgw4, hwcell⟩ := hwat k hlt
      injection hwe with hwe1 _ hwe3
      subst hwe3
      obtain rfl : wa = some ⟨gw, 0, none⟩ := hwe1.trans hgwe
      have hgwT : ¬ (gw = S.p ∨ S.b.blk gw ∨ (∃ v ∈ (L.map LF.wide).take k, v.ownBlock = some gw) ∨ False) := by
        have hlow := HLA4.out.low.2.1 gw rfl
        have hwsz := HSZ.out
        rintro (e | e | ⟨v, hv, e⟩ | e)
        · have := HW.out.mem.lt (L := 0) (.inl ⟨rfl, .inl e⟩); omega
        · have := HW.out.mem.lt (L := 0) (.inl ⟨rfl, .inr (.inr (.inr e))⟩); omega
        · obtain ⟨X', hX', rfl⟩ := List.mem_map.1 (List.mem_of_mem_take hv)
          have e' : X'.g = gw := by simpa [LF.wide, Value.ownBlock] using e
          exact HLA4.out.apart.2 gw rfl X' hX' e'
        · exact e
      have d2 : wr.cell? ⟨gw, k, none⟩ = some X.wide := by
        rw [World.cell?_of_block (w := w4) (a := ⟨gw, k, none⟩) (hst.upd.block gw hgw4 hgwT), hwcell k (by simpa using hlt), hX]
        simp
      have hgwr : gw < wr.heap.size := Nat.lt_of_lt_of_le hgw4 hst.upd.size
      have hXl : X.f.data.length ≤ 16777216 := hfew
      have hwl : (X.f.data ++ tail5).length = X.f.data.length + 5 := by simp [tail5]
      have hwn : 0 < (X.f.data ++ tail5).length := by omega
      have HBY := hid hby; have HDK := hid hdk; have HNO := hid hno; have HNP := hid hnp; have HNB := hid hnb; have HSTEP := hid hstep
      have hRO := hid (show ∀ W, Upd (fun _ => False) wr W → Calls Tryz.prog 65 #[.slice po X.f.data.length pc] W fun e w' => ∃ v', e = .returned v' ∧ DataIs w' v' (X.f.data ++ tail5) ∧ (∀ k, v'.ownBlock = some k → W.heap.size ≤ k) ∧ Upd (fun _ => False) W w' from fun W hW => roomy_any (HBY.out.upd hW (fun a l c e h0 => ⟨fun h => h, HLW.out a l c e h0⟩)) (by omega))
      have hwd : X.wide = .slice (some ⟨X.g, 0, none⟩) (X.f.data.length + 5) X.cap := rfl
      obtain ⟨XV, hXV⟩ : ∃ XV, XV = X.wide := ⟨_, rfl⟩
      rw [← hXV] at d2 HDK HNO HNP HNB HSTEP
      have hSM := hid (show ∀ W v', Upd (fun _ => False) wr W → DataIs W v' (X.f.data ++ tail5) → Calls Tryz.prog 10 #[XV, v'] W fun e w' => e = .returned (.bool true) ∧ w' = W from fun W v' hW hd => (same_any (HDK.out.upd hW (fun _ _ h => h)).bytes hd.bytes).mono (by rintro e w' ⟨rfl, rfl⟩; exact ⟨by simp, rfl⟩))
      have hbmost : b.n ≤ 4611686018427387904 := by have h1 := hst.most; have h2 := HNN.out; have h3 := HLL.out; omega
      clear hfiles hfbT hfb4 hcat hfe ho1 hm hby hlw hX hXm hXf hdv hvk hd4 hstep hdk hno hnp hnb hwat hgwe hwcell hwe1 hgwT hwd hst hXV b6' b8' hmk4
      go_wp2_with fail
      have hdr0 := hid (show Upd (fun _ => False) wr wr.drew from (Upd.refl _ wr).drew)
      have hPr : S.p < wr.heap.size := lt_of_heap HST.out.on.mem.top
      go_region_held3 (fun W => W.cell? ⟨fb, 8, none⟩ = some (.slice (some ⟨fbk, fo, none⟩) o.files.length fc') ∧ W.cell? ⟨fbk, fo + k * 3 + 1, none⟩ = some (.slice po X.f.data.length pc) ∧ W.cell? ⟨gw, k, none⟩ = some XV)
        (first
          | go_keep
          | (go_split_ands
             refine ⟨?_, ?_, ?_⟩
             · (rw [World.cell?_of_block (w := wr.drew) (a := ⟨fb, 8, none⟩) (hu5.block fb (by simpa using hfbr) (fun h => h))]; assumption)
             · (rw [World.cell?_of_block (w := wr.drew) (a := ⟨fbk, fo + k * 3 + 1, none⟩) (hu5.block fbk (by simpa using hfbk) (fun h => h))]; assumption)
             · (rw [World.cell?_of_block (w := wr.drew) (a := ⟨gw, k, none⟩) (hu5.block gw (by simpa using hgwr) (fun h => h))]; assumption)))
        (first
          | (go_at_call 65; refine (hRO.out _ hdr0.out).mono ?_; rintro e w5 ⟨v5, rfl, hd5, hn5, hu5⟩)
          | (go_at_call 10; refine (hSM.out _ _ (hdr0.out.trans hu5 (fun _ _ h => h)) hd5).mono ?_; rintro e w6 ⟨rfl, hww⟩; obtain rfl := hww.symm)
          | fail)
      all_goals
        have hu5r : Upd (fun _ => False) wr w5 := hdr0.out.trans hu5 (fun _ _ h => h)
        have hst5 := HST.out.more hu5r.drew
        have e2 : w5.cell? ⟨gw, k, none⟩ = some XV := (World.cell?_of_block (a := ⟨gw, k, none⟩) (hu5r.block gw hgwr (fun h => h))).trans d2
        have hgw5 : gw < w5.heap.size := Nat.lt_of_lt_of_le hgwr hu5r.size
        have hp5 : S.p < w5.heap.size := Nat.lt_of_lt_of_le hPr hu5r.size
        have htake := take_any (v := XV) hst5.on.mem.book hst5.on.mem.top (HDK.out.upd hu5r.drew (fun _ _ h => h)) (by omega) hbmost (fun h => hst5.on.mem.bp h) HNP.out HNB.out
        have HTAKE := hid htake; have HST5 := hid hst5
        clear htake hst5 hu5r hd5 hn5 hu5 d1 d2 c8
        go_wp2_with fail
        go_still_tail 7, (by kernel_rfl)
        change wpList _ _ _ _ _ w5.drew
        go_wp2_with fail
        refine HTAKE.out.mono ?_
        rintro e w7 ⟨rfl, b', htk⟩
        have HS7 := hid (HSTEP.out _ b' HST5.out _ htk)
        clear htk
        go_wp2
        go_roundw
        case rel => exact ⟨k + 1, by omega, rfl, by go_num, b', HS7.out⟩
        case measure => simp [intOf]; omega
    · obtain rfl : k = L.length := by omega
      have hjoin := (HMADE4.out.later HST.out HLOOSE.out HSZ1.out HWIDE.out (fun q h => h.elim)).joins HST.out.on HRM.out (Nat.le_trans HW.out.upd.size HSZ1.out) HSZ1.out (Nat.le_trans HU4.out.size HST.out.upd.size)
      have HJ := hid hjoin
      clear hfiles hfbT hfb4 hjoin hst b6' b8' hmk4
      go_wp2_with fail
      refine HJ.out.mono ?_
      rintro e w6 ⟨rfl, S', p1, p2, p3, p4, p5, p6⟩
      have HF := hid (show ActedM w0 w S ((o.files.length : Int) * 268435456) (.returned (.bool true)) w6 from ⟨rfl, S', p1, p2, p3, by rw [p4]; have h1 := HST.out.most; have h2 := HLL.out; show b.n ≤ _; rw [← h2]; exact h1, fun hc => p5 hc, ((Turn.keep w.heap.size S HU4.out).trans HST.out.turn).trans p6⟩)
      clear p1 p2 p3 p4 p5 p6
      go_wp2
      go_ret
      exact HF.out

end Go.Proofs.YtohpgmeflmppaaaGreat
