/-
  makes, walked: Load.
  both, walked.
-/
import Derived.Test.YtohpgmeflmppaaaGT
namespace Go.Proofs.Ytohpgmeflmppaaa
set_option linter.unusedVariables false
set_option linter.unusedSimpArgs false
set_option linter.unnecessarySimpa false
set_option linter.unusedSectionVars false
open Go Go.RowKit

theorem Laid.loose {w0 w w3 : World} {N1 n : Nat} {S : WS} {lv wv : Value} {L : List LF} {more : List Value} (h : Laid w3 N1 lv wv L n more) (hw : WOn w0 w S) (hN : w.heap.size ≤ N1) (hs : w.heap.size ≤ w3.heap.size) : Loose w0 w3 w.heap.size S (fun _ => False) (L.map LF.wide) := by
  refine ⟨fun L q hq => hw.mem.lt hq, hw.upd.size, hs, fun v hv q hq => ?_, fun i j hi hj hij q h1 h2 => ?_, fun q h => h.elim⟩
  · obtain ⟨x, hx, rfl⟩ := List.mem_map.1 hv
    have e : x.g = q := by simpa [LF.wide, Value.ownBlock] using hq
    subst e
    exact ⟨Nat.le_trans hN (h.low.2.2 x hx), h.lt hx⟩
  · simp only [List.getElem_map, LF.wide, Value.ownBlock, Option.some.injEq] at h1 h2
    have hnd := h.nodup
    have e : (L.map LF.g)[i]'(by simpa using hi) = (L.map LF.g)[j]'(by simpa using hj) := by simp only [List.getElem_map]; omega
    exact (List.pairwise_iff_getElem.1 hnd) i j (by simpa using hi) (by simpa using hj) hij e

/-- The files that were laid read as those they were made of. -/
theorem Laid.filesIn {w : World} {N lc : Nat} {la : Option Addr} {wv : Value} {L : List LF} {more : List Value} (h : Laid w N (.slice la (L.length + 1) lc) wv L (L.length + 1) more) (hm : more.length = 3) (hc : L.length + 1 ≤ lc) (hlc : lc ≤ 9223372036854775807) :
    FilesIn w (.slice la L.length lc) (L.map LF.toI) := by
  obtain ⟨a, c, hs, -, -, hlen, hat⟩ := row_shape3 h.rowL
  injection hs with e1 e2 e3
  subst e1 e3
  refine ⟨⟨la, lc, by simp, by simp; omega, hlc, fun k hk => ?_⟩, fun f hf => ?_, fun f hf a m c e h0 => ?_⟩
  · have hk' : k < L.length := by simpa using hk
    have hfl : ∀ (l : List LF) (k : Nat) (hk : k < l.length) (j : Nat) (hj : j < 3), (l.flatMap LF.cells ++ more)[k * 3 + j]? = l[k].cells[j]? := by
      intro l
      induction l with
      | nil => intro k hk; simp at hk
      | cons x t ih =>
        intro k hk j hj
        have hxl : x.cells.length = 3 := rfl
        cases k with
        | zero =>
          rw [Nat.zero_mul, Nat.zero_add, List.flatMap_cons, List.append_assoc, List.getElem?_append_left (by omega)]
          rfl
        | succ k =>
          rw [List.flatMap_cons, List.append_assoc, List.getElem?_append_right (by omega), hxl]
          have e3 : (k + 1) * 3 + j - 3 = k * 3 + j := by omega
          rw [e3, ih k (by simpa using hk) j hj]
          rfl
    have hlt : ∀ j, j < 3 → k * 3 + j < (L.flatMap LF.cells ++ more).length := fun j hj => by omega
    obtain ⟨g, e, hg2, -⟩ := hat _ (hlt 0 (by omega))
    have hc3 : ∀ j, j < 3 → w.cell? ⟨g, k * 3 + j, none⟩ = L[k].cells[j]? := fun j hj => by
      obtain ⟨g', e', -, hc⟩ := hat _ (hlt j hj)
      have e2 : g' = g := by rw [e] at e'; injection e' with e'; injection e' with e'; exact e'.symm
      subst e2
      rw [hc, ← hfl L k hk' j hj, List.getElem?_eq_getElem (hlt j hj)]
    refine ⟨g, 0, e, hg2, ?_, ?_, ?_⟩
    · simpa [LF.cells, LF.toI] using hc3 0 (by omega)
    · simpa [LF.cells, LF.toI] using hc3 1 (by omega)
    · simpa [LF.cells, LF.toI] using hc3 2 (by omega)
  · obtain ⟨x, hx, rfl⟩ := List.mem_map.1 hf
    have hd := (h.data x hx).bytes
    have hlen5 : (x.f.data ++ tail5).length = x.f.data.length + 5 := by simp [tail5]
    have h2 : BytesAt w (.slice (some ⟨x.g, 0, none⟩) (x.f.data ++ tail5).length x.cap) (x.f.data ++ tail5) := by rw [hlen5]; exact hd
    have h3 := h2.take (n := x.f.data.length) (by simp) x.cap (fun h => by cases h)
    rw [List.take_left] at h3
    exact h3
  · obtain ⟨x, hx, rfl⟩ := List.mem_map.1 hf
    have e' : LF.dv x = .slice (some a) m c := e
    unfold LF.dv at e'
    injection e' with e1 _ _
    injection e1 with e1
    subst e1
    exact h.lt hx

theorem toI_core {L : List LF} {l : List FileI} (h : L.map LF.f = l) : (L.map LF.toI).map FileI.core = l.map FileI.core := by
  rw [← h, List.map_map, List.map_map]
  rfl

set_option maxRecDepth 100000 in
set_option maxHeartbeats 6400000 in
theorem makes_load {w0 w : World} {S : WS} {o : OpI} (i : Int) (hw : WOn w0 w S) (ho : OpShapes o) (hroom : S.ds.length < 5) (hk : o.kind = 18) (hfi : FilesIn w0 o.fv o.files) (hfs : ∀ f ∈ o.files, f.data.length ≤ 16777216) (hfl : o.files.length ≤ 10000000)
    (hn : S.b.n + (o.files.length : Int) * 268435456 ≤ 4611686018427387904) :
    Calls Try.prog 42 #[.pointer (some ⟨S.p, 0, none⟩), .agg o.cells, .int .i64 i] w fun e w' => ActedM w0 w S ((o.files.length : Int) * 268435456) e w' := by
  obtain ⟨ba, bc, ca, cl, cc, fa, fl, fc, hb1, hc1, hf1⟩ := ho.get
  obtain ⟨fa', fc', hfv, hfl1, hfl2, -⟩ := hfi.shape
  obtain ⟨rfl, rfl, rfl⟩ : fa' = fa ∧ o.files.length = fl ∧ fc' = fc := by rw [hf1] at hfv; injection hfv with h1 h2 h3; exact ⟨h1.symm, h2.symm, h3.symm⟩
  have hcells : o.cells = #[.int .i64 18, .int .i64 o.obj, .string o.name, .string o.dest, .slice ba o.bs.length bc, .int .i64 o.pos, .int .i64 o.n, .slice ca cl cc, .slice fa' o.files.length fc'] := by unfold OpI.cells; rw [hk, hb1, hc1, hf1]
  rw [hcells]
  obtain ⟨da, dc, hdv, -, -⟩ := owns_shape hw.mem.rowD
  have htop := hw.mem.top
  have hpl := lt_of_heap htop
  have c0w : w.cell? ⟨S.p, 0, none⟩ = some (.slice da S.ds.length dc) := by rw [cell_of_row w _ 0 _ _ _ htop, ← hdv]; rfl
  have hroom' : ¬ (5 : Int) ≤ (S.ds.length : Int) := by omega
  have HW := hid hw; have HFI := hid hfi; have HF1 := hid hf1; have HFS := hid hfs; have HRM := hid hroom; have HNN := hid hn
  clear hw ho hb1 hc1 hf1 hcells hdv htop hk hfi hfv hfs hroom hn
  go_enter Try.func42, Try.ntmps42
  go_upto_region 19 with fail
  obtain ⟨wb, hwb⟩ : ∃ wb, wb = w.alloc (.cells #[.int .i64 18, .int .i64 o.obj, .string o.name, .string o.dest, .slice ba o.bs.length bc, .int .i64 o.pos, .int .i64 o.n, .slice ca cl cc, .slice fa' o.files.length fc'] 71) := ⟨_, rfl⟩
  rw [← hwb]
  obtain ⟨fb, hfb⟩ : ∃ fb, fb = w.heap.size := ⟨_, rfl⟩
  rw [← hfb]
  have hbx : wb.heap[fb]? = some (.cells #[.int .i64 18, .int .i64 o.obj, .string o.name, .string o.dest, .slice ba o.bs.length bc, .int .i64 o.pos, .int .i64 o.n, .slice ca cl cc, .slice fa' o.files.length fc'] 71 (0, 0)) := by rw [hwb, hfb]; exact heap_alloc_new w _
  have hub : Upd (fun _ => False) w wb := by rw [hwb]; exact (Upd.refl _ _).alloc _
  have HBX := hid hbx
  have hcell : ∀ W : World, W.heap[fb]? = wb.heap[fb]? → W.cell? ⟨fb, 6, none⟩ = some (.int .i64 o.n) ∧ W.cell? ⟨fb, 8, none⟩ = some (.slice fa' o.files.length fc') ∧ fb < W.heap.size := fun W hW => by
    have h := hW.trans HBX.out
    exact ⟨by rw [cell_of_row W _ 6 _ _ _ h]; rfl, by rw [cell_of_row W _ 8 _ _ _ h]; rfl, lt_of_heap h⟩
  have HCELL := hid hcell
  have hsz : wb.heap.size = w.heap.size + 1 := by rw [hwb]; simp
  have hfin : ∀ W, WOn w0 W S → FilesIn W (.slice fa' o.files.length fc') o.files := fun W hW => by have h := HFI.out.keep hW.upd; rw [HF1.out] at h; exact h
  have HFIN := hid hfin
  have HWB := hid (HW.out.keep hub); have HUB := hid hub; have HFB := hid hfb; have HSZ := hid hsz
  obtain ⟨b6, b8, hfbl⟩ := hcell wb rfl
  clear hwb hfb hbx hub hcell hsz hfin hpl c0w
  go_wp2_with fail
  refine (laid_any (HFIN.out wb HWB.out) (fun f hf => by have := HFS.out f hf; omega) hfl).mono ?_
  rintro e w1 ⟨L, la, lc, wv, rfl, hlc1, hlc2, hLf, hlaid, hu1⟩
  have hLl : L.length = o.files.length := by rw [← hLf]; simp
  obtain ⟨wa, wc, hwv, -, -⟩ := owns_shape hlaid.rowW
  rw [hwv] at hlaid ⊢
  have HLAID := hid hlaid; have HU1 := hid hu1; have HLF := hid hLf; have HLL := hid hLl
  have hw1 : WOn w0 w1 S := HWB.out.keep hu1
  have HW1 := hid hw1
  have hlin : FilesIn w1 (.slice la o.files.length lc) (L.map LF.toI) := by
    have h := hlaid
    rw [← hLl] at h ⊢
    exact h.filesIn rfl (by omega) hlc2
  have HLIN := hid hlin
  have hbf1 : w1.heap[fb]? = wb.heap[fb]? := hu1.block fb hfbl (fun h => h)
  obtain ⟨b6', b8', hfb1⟩ := HCELL.out w1 hbf1
  have HBF1 := hid hbf1
  clear hlaid hu1 hLf hwv hw1 hlin hbf1 b6 b8 hfbl hLl
  go_wp2_with fail
  have hload := load_any (cap := o.n) HLIN.out
  refine hload.mono ?_
  clear hload
  rintro e w2 hres
  obtain ⟨x, c, rfl⟩ := hres.split
  have HRES := hid hres
  have hu2 : Upd (fun _ => False) w1 w2 := hres.1
  have HU2 := hid hu2
  have hbf2 : w2.heap[fb]? = wb.heap[fb]? := (hu2.block fb hfb1 (fun h => h)).trans HBF1.out
  obtain ⟨b6, b8, hfb2⟩ := HCELL.out w2 hbf2
  have HBF2 := hid hbf2
  have HW2 := hid (HW1.out.keep hu2)
  clear hres hu2 hbf2 b6' b8'
  go_wp2_with fail
  have hload := refLoad_any (cap := o.n) (HFIN.out w2 HW2.out) (fun f hf => by have := HFS.out f hf; omega)
  refine hload.mono ?_
  clear hload
  rintro e w3 hres
  obtain ⟨y, c', rfl⟩ := hres.split
  have hcore : (L.map LF.toI).map FileI.core = o.files.map FileI.core := toI_core HLF.out
  have hla : loadA o.n (L.map LF.toI) = loadA o.n o.files := loadA_core hcore
  obtain ⟨rfl, hmade⟩ := made_loads (S := S) (fun L' q hq => HW1.out.mem.lt hq) (hla ▸ HRES.out) hres
  have hu3 : Upd (fun _ => False) w2 w3 := hres.1
  have hbf3 : w3.heap[fb]? = wb.heap[fb]? := (hu3.block fb hfb2 (fun h => h)).trans HBF2.out
  obtain ⟨b6', b8', hfb3⟩ := HCELL.out w3 hbf3
  have HW3 := hid (HW2.out.keep hu3)
  have hu13 : Upd (fun _ => False) w1 w3 := HU2.out.trans hu3 (fun _ _ h => h)
  have HLAID3 := hid (HLAID.out.keep hu13)
  have hlin3 : FilesIn w3 (.slice la o.files.length lc) (L.map LF.toI) := HLIN.out.keep hu13
  have hsame := sameFilesIn_any hlin3 (HFIN.out w3 HW3.out) hcore
  have HSAME := hid hsame; have HMADE := hid hmade; have HBF3 := hid hbf3
  have hu23 : w2.heap.size ≤ w3.heap.size := hu3.size
  have HU3 := hid hu3
  have HWIDE := hid (show ∀ v ∈ L.map LF.wide, ∀ q, v.ownBlock = some q → q < w1.heap.size from fun v hv q hq => by
    obtain ⟨x, hx, rfl⟩ := List.mem_map.1 hv
    have e : x.g = q := by simpa [LF.wide, Value.ownBlock] using hq
    subst e
    exact HLAID.out.lt hx)
  obtain ⟨la3, lc3, hs3, -, -, hlen3, hat3⟩ := row_shape3 HLAID3.out.rowL
  injection hs3 with e1 e2 e3
  subst e1 e3
  have hflen : (L.flatMap LF.cells).length = o.files.length * 3 := by
    rw [List.length_append] at hlen3
    simp at hlen3 ⊢
    have := HLL.out
    omega
  obtain ⟨gl, rfl, hgl, hmk⟩ := hat3 (o.files.length * 3) (by rw [List.length_append, hflen]; simp)
  rw [List.getElem_append_right (by omega)] at hmk
  have hmk' : w3.cell? ⟨gl, o.files.length * 3, none⟩ = some (.string ⟨#[109, 97, 114, 107]⟩) := by
    rw [hmk]
    simp [hflen]
  have HMK := hid hmk'
  clear hres hcore hla hmade hu3 hbf3 hu13 hlin3 hsame hlen3 hat3 hflen hmk hmk' b6 b8
  go_wp2_with fail
  refine HSAME.out.mono ?_
  rintro e w4 ⟨rfl, hdr⟩
  have hmk4 : w4.cell? ⟨gl, o.files.length * 3, none⟩ = some (.string ⟨#[109, 97, 114, 107]⟩) := (hdr.cell _).trans HMK.out
  have hgl4 : gl < w4.heap.size := by rw [hdr.2]; exact hgl
  have hc1i : (o.files.length : Int) + 1 ≤ (lc : Int) := by omega
  have hw1 : IntKind.i64.wrap ((o.files.length : Int) + 1) = (o.files.length : Int) + 1 := by rw [IntKind.wrap_i64]; omega
  have hw4 : WOn w0 w4 S := HW3.out.keep hdr.1
  have hla4 := HLAID3.out.keep hdr.1
  have hsz4 : w.heap.size ≤ w4.heap.size := Nat.le_trans HUB.out.size (Nat.le_trans HU1.out.size (Nat.le_trans HU2.out.size (by rw [hdr.2]; exact hu23)))
  have hmade4 : Made w1.heap.size w4 S x y c' := by
    rcases HMADE.out with h | ⟨s, r, h1, h2, h3, h4, h5, h6⟩
    · exact .inl h
    · exact .inr ⟨s, r, h1, h2, h3, h4.upd hdr.1 (fun _ _ h => h), h5.upd hdr.1 (fun _ _ h => h), h6⟩
  have hbf4 : w4.heap[fb]? = wb.heap[fb]? := (congrArg (fun h => h[fb]?) hdr.2).trans HBF3.out
  have hloose := hla4.loose HW.out HUB.out.size hsz4
  have HW4 := hid hw4; have HLA4 := hid hla4; have HMADE4 := hid hmade4; have HBF4 := hid hbf4; have HLOOSE := hid hloose
  have HU4 := hid (show Upd (fun _ => False) w w4 from ((HUB.out.trans HU1.out (fun _ _ h => h)).trans HU2.out (fun _ _ h => h)).trans (HU3.out.trans hdr.1 (fun _ _ h => h)) (fun _ _ h => h))
  have HSZ1 := hid (show w.heap.size ≤ w1.heap.size from Nat.le_trans HUB.out.size HU1.out.size)
  clear hdr hw4 hla4 hmade4 hbf4 hloose hsz4 e2
  go_wp2
  go_loopw [23, 24] (fun ok i wr => ∃ k : Nat, k ≤ L.length ∧ ok = .bool true ∧ i = .int .i64 k ∧ ∃ b, Strip w0 w4 wr w.heap.size S (fun _ => False) (L.map LF.wide) k b) (fun _ i _ => L.length - (intOf i).toNat)
  case atStart => exact ⟨0, Nat.zero_le _, rfl, rfl, S.b, Strip.start _ _ HW4.out⟩
  case round =>
    obtain ⟨k, hk, rfl, rfl, b, hst⟩ := hrel
    have HST := hid hst
    have hfiles := HFI.out.keep hst.on.upd
    rw [HF1.out] at hfiles
    have hfbT : ¬ (fb = S.p ∨ S.b.blk fb ∨ (∃ v ∈ (L.map LF.wide).take k, v.ownBlock = some fb) ∨ False) := by
      rintro (e | e | ⟨v, hv, e⟩ | e)
      · have := HW.out.mem.lt (L := 0) (.inl ⟨rfl, .inl e⟩); have := HFB.out; omega
      · have := HW.out.mem.lt (L := 0) (.inl ⟨rfl, .inr (.inr (.inr e))⟩); have := HFB.out; omega
      · obtain ⟨X, hX, rfl⟩ := List.mem_map.1 (List.mem_of_mem_take hv)
        have e' : X.g = fb := by simpa [LF.wide, Value.ownBlock] using e
        have := HLA4.out.low.2.2 X hX; have := HSZ.out; have := HFB.out; omega
      · exact e
    have hfb4 : fb < w4.heap.size := (HCELL.out w4 HBF4.out).2.2
    obtain ⟨-, c8, hfbr⟩ := HCELL.out wr ((hst.upd.block fb hfb4 hfbT).trans HBF4.out)
    by_cases hlt : k < L.length
    · have hltf : k < o.files.length := by have := HLL.out; omega
      obtain ⟨ao, oc, hoe, -, -, hcat⟩ := hfiles.shape
      obtain ⟨fbk, fo, hfe, hfbk, -, d1, -⟩ := hcat k hltf
      injection hoe with ho1 _ ho3
      subst ho3
      obtain rfl : fa' = some ⟨fbk, fo, none⟩ := ho1.trans hfe
      have hm := List.getElem_mem hltf
      have hby := hfiles.bytes _ hm
      have hfew := HFS.out _ hm
      have hlw := hfiles.low _ hm
      obtain ⟨X, hX⟩ : ∃ X, X = L[k] := ⟨_, rfl⟩
      have hXm : X ∈ L := by rw [hX]; exact List.getElem_mem hlt
      have hXf : o.files[k] = X.f := by
        have h := congrArg (fun l => l[k]?) HLF.out
        simp only [List.getElem?_map, List.getElem?_eq_getElem hlt, List.getElem?_eq_getElem hltf, Option.map_some, Option.some.injEq] at h
        rw [hX]; exact h.symm
      rw [hXf] at d1 hby hfew hlw
      obtain ⟨po, pc, hdv, -, -⟩ := id hby
      rw [hdv] at d1 hby hlw
      have HLW := hid hlw
      have hvk : (L.map LF.wide)[k]'(by simpa using hlt) = X.wide := by rw [hX]; simp
      have hd4 : DataIs w4 ((L.map LF.wide)[k]'(by simpa using hlt)) (X.f.data ++ tail5) := by rw [hvk]; exact HLA4.out.data X hXm
      have hnx := hst.next HLOOSE.out (by simpa using hlt) hd4
      have hstep := fun (wr' : World) (b' : BK) (hh : Strip w0 w4 wr' w.heap.size S (fun _ => False) (L.map LF.wide) k b) (w'' : World) (ht : Took wr' w'' S.p S.dv S.rv b b' ((L.map LF.wide)[k]'(by simpa using hlt))) => hh.step HLOOSE.out (by simpa using hlt) hd4 ht
      rw [hvk] at hnx hstep
      obtain ⟨hdk, hno, hnp, hnb⟩ := hnx
      obtain ⟨wa', wc', hwe, -, hwat⟩ := owns_shape HLA4.out.rowW
      obtain ⟨gw, hgwe, -, hgw4, hwcell⟩ := hwat k hlt
      injection hwe with hwe1 _ hwe3
      subst hwe3
      obtain rfl : wa = some ⟨gw, 0, none⟩ := hwe1.trans hgwe
      have hgwT : ¬ (gw = S.p ∨ S.b.blk gw ∨ (∃ v ∈ (L.map LF.wide).take k, v.ownBlock = some gw) ∨ False) := by
        have hlow := HLA4.out.low.2.1 gw rfl
        have hwsz := HSZ.out
        rintro (e | e | ⟨v, hv, e⟩ | e)
        · have := HW.out.mem.lt (L := 0) (.inl ⟨rfl, .inl e⟩); omega
        · have := HW.out.mem.lt (L := 0) (.inl ⟨rfl, .inr (.inr (.inr e))⟩); omega
        · obtain ⟨X', hX', rfl⟩ := List.mem_map.1 (List.mem_of_mem_take hv)
          have e' : X'.g = gw := by simpa [LF.wide, Value.ownBlock] using e
          exact HLA4.out.apart.2 gw rfl X' hX' e'
        · exact e
      have d2 : wr.cell? ⟨gw, k, none⟩ = some X.wide := by
        rw [World.cell?_of_block (w := w4) (a := ⟨gw, k, none⟩) (hst.upd.block gw hgw4 hgwT), hwcell k (by simpa using hlt), hX]
        simp
      have hgwr : gw < wr.heap.size := Nat.lt_of_lt_of_le hgw4 hst.upd.size
      have hXl : X.f.data.length ≤ 16777216 := hfew
      have hwl : (X.f.data ++ tail5).length = X.f.data.length + 5 := by simp [tail5]
      have hwn : 0 < (X.f.data ++ tail5).length := by omega
      have HBY := hid hby; have HDK := hid hdk; have HNO := hid hno; have HNP := hid hnp; have HNB := hid hnb; have HSTEP := hid hstep
      have hRO := hid (show ∀ W, Upd (fun _ => False) wr W → Calls Try.prog 67 #[.slice po X.f.data.length pc] W fun e w' => ∃ v', e = .returned v' ∧ DataIs w' v' (X.f.data ++ tail5) ∧ (∀ k, v'.ownBlock = some k → W.heap.size ≤ k) ∧ Upd (fun _ => False) W w' from fun W hW => roomy_any (HBY.out.upd hW (fun a l c e h0 => ⟨fun h => h, HLW.out a l c e h0⟩)) (by omega))
      have hwd : X.wide = .slice (some ⟨X.g, 0, none⟩) (X.f.data.length + 5) X.cap := rfl
      obtain ⟨XV, hXV⟩ : ∃ XV, XV = X.wide := ⟨_, rfl⟩
      rw [← hXV] at d2 HDK HNO HNP HNB HSTEP
      have hSM := hid (show ∀ W v', Upd (fun _ => False) wr W → DataIs W v' (X.f.data ++ tail5) → Calls Try.prog 27 #[XV, v'] W fun e w' => e = .returned (.bool true) ∧ w' = W from fun W v' hW hd => (same_any (HDK.out.upd hW (fun _ _ h => h)).bytes hd.bytes).mono (by rintro e w' ⟨rfl, rfl⟩; exact ⟨by simp, rfl⟩))
      have hbmost : b.n ≤ 4611686018427387904 := by have h1 := hst.most; have h2 := HNN.out; have h3 := HLL.out; omega
      clear hfiles hfbT hfb4 hcat hfe ho1 hm hby hlw hX hXm hXf hdv hvk hd4 hstep hdk hno hnp hnb hwat hgwe hwcell hwe1 hgwT hwd hst hXV b6' b8' hmk4
      go_wp2_with fail
      have hdr0 := hid (show Upd (fun _ => False) wr wr.drew from (Upd.refl _ wr).drew)
      have hPr : S.p < wr.heap.size := lt_of_heap HST.out.on.mem.top
      go_region_held3 (fun W => W.cell? ⟨fb, 8, none⟩ = some (.slice (some ⟨fbk, fo, none⟩) o.files.length fc') ∧ W.cell? ⟨fbk, fo + k * 3 + 1, none⟩ = some (.slice po X.f.data.length pc) ∧ W.cell? ⟨gw, k, none⟩ = some XV)
        (first
          | go_keep
          | (go_split_ands
             refine ⟨?_, ?_, ?_⟩
             · (rw [World.cell?_of_block (w := wr.drew) (a := ⟨fb, 8, none⟩) (hu5.block fb (by simpa using hfbr) (fun h => h))]; assumption)
             · (rw [World.cell?_of_block (w := wr.drew) (a := ⟨fbk, fo + k * 3 + 1, none⟩) (hu5.block fbk (by simpa using hfbk) (fun h => h))]; assumption)
             · (rw [World.cell?_of_block (w := wr.drew) (a := ⟨gw, k, none⟩) (hu5.block gw (by simpa using hgwr) (fun h => h))]; assumption)))
        (first
          | (go_at_call 67; refine (hRO.out _ hdr0.out).mono ?_; rintro e w5 ⟨v5, rfl, hd5, hn5, hu5⟩)
          | (go_at_call 27; refine (hSM.out _ _ (hdr0.out.trans hu5 (fun _ _ h => h)) hd5).mono ?_; rintro e w6 ⟨rfl, hww⟩; obtain rfl := hww.symm)
          | fail)
      all_goals
        have hu5r : Upd (fun _ => False) wr w5 := hdr0.out.trans hu5 (fun _ _ h => h)
        have hst5 := HST.out.more hu5r.drew
        have e2 : w5.cell? ⟨gw, k, none⟩ = some XV := (World.cell?_of_block (a := ⟨gw, k, none⟩) (hu5r.block gw hgwr (fun h => h))).trans d2
        have hgw5 : gw < w5.heap.size := Nat.lt_of_lt_of_le hgwr hu5r.size
        have hp5 : S.p < w5.heap.size := Nat.lt_of_lt_of_le hPr hu5r.size
        have htake := take_any (v := XV) hst5.on.mem.book hst5.on.mem.top (HDK.out.upd hu5r.drew (fun _ _ h => h)) (by omega) hbmost (fun h => hst5.on.mem.bp h) HNP.out HNB.out
        have HTAKE := hid htake; have HST5 := hid hst5
        clear htake hst5 hu5r hd5 hn5 hu5 d1 d2 c8
        go_wp2_with fail
        go_still_tail 7, (by kernel_rfl)
        change wpList _ _ _ _ _ w5.drew
        go_wp2_with fail
        refine HTAKE.out.mono ?_
        rintro e w7 ⟨rfl, b', htk⟩
        have HS7 := hid (HSTEP.out _ b' HST5.out _ htk)
        clear htk
        go_wp2
        go_roundw
        case rel => exact ⟨k + 1, by omega, rfl, by go_num, b', HS7.out⟩
        case measure => simp [intOf]; omega
    · obtain rfl : k = L.length := by omega
      have hjoin := (HMADE4.out.later HST.out HLOOSE.out HSZ1.out HWIDE.out (fun q h => h.elim)).joins HST.out.on HRM.out (Nat.le_trans HW.out.upd.size HSZ1.out) HSZ1.out (Nat.le_trans HU4.out.size HST.out.upd.size)
      have HJ := hid hjoin
      clear hfiles hfbT hfb4 hjoin hst b6' b8' hmk4
      go_wp2_with fail
      refine HJ.out.mono ?_
      rintro e w6 ⟨rfl, S', p1, p2, p3, p4, p5, p6⟩
      have HF := hid (show ActedM w0 w S ((o.files.length : Int) * 268435456) (.returned (.bool true)) w6 from ⟨rfl, S', p1, p2, p3, by rw [p4]; have h1 := HST.out.most; have h2 := HLL.out; show b.n ≤ _; rw [← h2]; exact h1, fun hc => p5 hc, ((Turn.keep w.heap.size S HU4.out).trans HST.out.turn).trans p6⟩)
      clear p1 p2 p3 p4 p5 p6
      go_wp2
      go_ret
      exact HF.out

end Go.Proofs.Ytohpgmeflmppaaa

namespace Go.Proofs.Ytohpgmeflmppaaa
set_option linter.unusedVariables false
set_option linter.unusedSimpArgs false
set_option linter.unnecessarySimpa false
set_option linter.unusedSectionVars false
open Go Go.RowKit

/-- A disk and the document's side by side, made since w0; beside them one block that stays. -/
structure DR (w0 w : World) (s : DS) (r : RS) (nb : Nat) (ob : Obj) : Prop where
  sIn : s.In w
  rIn : r.In w
  apart : ∀ k ∈ s.blocks, ¬ r.own k
  sLow : ∀ k ∈ s.blocks, w0.heap.size ≤ k
  rLow : ∀ k, r.own k → w0.heap.size ≤ k
  upd : Upd (fun _ => False) w0 w
  blk : w.heap[nb]? = some ob
  out : ¬ nb ∈ s.blocks ∧ ¬ r.own nb
  alike : Alike s.abs r.abs
  sorted : Sorted r.F

theorem DR.stepD {w0 w w' : World} {s s2 : DS} {r : RS} {nb : Nat} {ob : Obj} (h : DR w0 w s r nb ob) (hst : Step w w' s s2) : s2.In w' ∧ r.In w' ∧ (∀ k ∈ s2.blocks, ¬ r.own k) ∧ (∀ k ∈ s2.blocks, w0.heap.size ≤ k) ∧ Upd (fun _ => False) w0 w' ∧ w'.heap[nb]? = some ob ∧ ¬ nb ∈ s2.blocks ∧ s2.p = s.p := by
  have hsz := h.upd.size
  have hnb := lt_of_heap h.blk
  refine ⟨hst.ins, h.rIn.upd hst.upd (fun k hk hm => h.apart k hm hk), fun k hk ho => ?_, fun k hk => ?_, h.upd.trans hst.upd (fun k hk hm => by have := h.sLow k hm; omega), hst.upd.get h.blk h.out.1, fun hm => ?_, hst.p⟩
  · rcases hst.foot k hk with h1 | h1
    · exact h.apart k h1 ho
    · have := h.rIn.lt ho; omega
  · rcases hst.foot k hk with h1 | h1
    · exact h.sLow k h1
    · omega
  · rcases hst.foot nb hm with h1 | h1
    · exact h.out.1 h1
    · omega

theorem DR.stepR {w0 w w' : World} {s : DS} {r r2 : RS} {nb : Nat} {ob : Obj} (h : DR w0 w s r nb ob) (hst : RStep w w' r r2) (ha : Alike s.abs r2.abs) (hso : Sorted r2.F) : DR w0 w' s r2 nb ob ∧ r2.p = r.p := by
  have hsz := h.upd.size
  have hnb := lt_of_heap h.blk
  refine ⟨⟨h.sIn.upd hst.upd (fun k hk hm => h.apart k hk hm), hst.ins, fun k hk ho => ?_, h.sLow, fun k hk => ?_, h.upd.trans hst.upd (fun k hk hm => by have := h.rLow k hm; omega), hst.upd.get h.blk h.out.2, ⟨h.out.1, fun hm => ?_⟩, ha, hso⟩, hst.p⟩
  · rcases hst.foot k ho with h1 | h1
    · exact h.apart k hk h1
    · have := h.sIn.lt k hk; omega
  · rcases hst.foot k hk with h1 | h1
    · exact h.rLow k h1
    · omega
  · rcases hst.foot nb hm with h1 | h1
    · exact h.out.2 h1
    · omega

theorem DR.mk2 {w0 w w1 w2 : World} {s s2 : DS} {r r2 : RS} {nb : Nat} {ob : Obj} (h : DR w0 w s r nb ob) (h1 : Step w w1 s s2) (h2 : RStep w1 w2 r r2) (ha : Alike s2.abs r2.abs) (hso : Sorted r2.F) : DR w0 w2 s2 r2 nb ob ∧ s2.p = s.p ∧ r2.p = r.p := by
  obtain ⟨a1, a2, a3, a4, a5, a6, a7, a8⟩ := h.stepD h1
  have hsz := a5.size
  have hnb := lt_of_heap a6
  refine ⟨⟨a1.upd h2.upd (fun k hk hm => a3 k hk hm), h2.ins, fun k hk ho => ?_, a4, fun k hk => ?_, a5.trans h2.upd (fun k hk hm => by have := h.rLow k hm; omega), h2.upd.get a6 h.out.2, ⟨a7, fun hm => ?_⟩, ha, hso⟩, a8, h2.p⟩
  · rcases h2.foot k ho with h3 | h3
    · exact a3 k hk h3
    · have := a1.lt k hk; omega
  · rcases h2.foot k hk with h3 | h3
    · exact h.rLow k h3
    · omega
  · rcases h2.foot nb hm with h3 | h3
    · exact h.out.2 h3
    · omega

theorem DR.stepD2 {w0 w w' : World} {s s2 : DS} {r : RS} {nb : Nat} {ob : Obj} (h : DR w0 w s r nb ob) (hst : Step w w' s s2) (ha : s2.abs = s.abs) : DR w0 w' s2 r nb ob ∧ s2.p = s.p := by
  obtain ⟨a1, a2, a3, a4, a5, a6, a7, a8⟩ := h.stepD hst
  exact ⟨⟨a1, a2, a3, a4, h.rLow, a5, a6, ⟨a7, h.out.2⟩, by rw [ha]; exact h.alike, h.sorted⟩, a8⟩

def fCells (j : Nat) : List Value := [.string (fName j), .slice none 0 0, .int .i64 0]

theorem flatC (n : Nat) : ((List.range n).flatMap fCells).length = n * 3 := by
  induction n with
  | zero => rfl
  | succ n ih =>
    rw [List.range_succ, List.flatMap_append, List.length_append, ih]
    simp [fCells]
    omega

theorem both_filesIn {w : World} {v : Value} (h : w.ownsRow 0 44 3 v 256 ((List.range 256).flatMap fCells)) : FilesIn w v ((List.range 256).map fFile) := by
  obtain ⟨ao, cap, rfl, hc, hm, hlen, hat⟩ := row_shape3 h
  have hfl : ∀ (n k j : Nat), k < n → j < 3 → ((List.range n).flatMap fCells)[k * 3 + j]? = (fCells k)[j]? := by
    intro n
    induction n with
    | zero => intro k j hk; omega
    | succ n ih =>
      intro k j hk hj
      have hl : ((List.range n).flatMap fCells).length = n * 3 := by
        exact flatC n
      rw [List.range_succ, List.flatMap_append]
      by_cases e : k = n
      · subst e
        rw [List.getElem?_append_right (by omega), hl]
        have e3 : k * 3 + j - k * 3 = j := by omega
        rw [e3]
        simp
      · rw [List.getElem?_append_left (by omega)]
        exact ih k j (by omega) hj
  refine ⟨⟨ao, cap, by simp, by simp; omega, hm, fun k hk => ?_⟩, fun f hf => ?_, fun f hf a m c e h0 => ?_⟩
  · have hk' : k < 256 := by simpa using hk
    obtain ⟨g, e, hg2, -⟩ := hat (k * 3 + 0) (by omega)
    have hc3 : ∀ j, j < 3 → w.cell? ⟨g, k * 3 + j, none⟩ = (fCells k)[j]? := fun j hj => by
      obtain ⟨g', e', -, hc⟩ := hat (k * 3 + j) (by omega)
      have e2 : g' = g := by rw [e] at e'; injection e' with e'; injection e' with e'; exact e'.symm
      subst e2
      rw [hc, ← hfl 256 k j hk' hj, List.getElem?_eq_getElem (by omega)]
    refine ⟨g, 0, e, hg2, ?_, ?_, ?_⟩
    · simpa [fCells, fFile] using hc3 0 (by omega)
    · simpa [fCells, fFile] using hc3 1 (by omega)
    · simpa [fCells, fFile] using hc3 2 (by omega)
  · obtain ⟨i, hi, rfl⟩ := List.mem_map.1 hf
    exact ⟨none, 0, rfl, fun _ => ⟨rfl, rfl⟩, fun a h => by cases h⟩
  · obtain ⟨i, hi, rfl⟩ := List.mem_map.1 hf
    have e' : (Value.slice none 0 0) = .slice (some a) m c := e
    cases e'

theorem u8_wrap (m : Nat) (h : m < 16) : IntKind.u8.wrap (97 + (m : Int)) = ((UInt8.ofNat (97 + m)).toNat : Int) := by
  have : ∀ m : Nat, m < 16 → IntKind.u8.wrap (97 + (m : Int)) = ((UInt8.ofNat (97 + m)).toNat : Int) := by decide
  exact this m h

theorem fName_app (x1 x2 : UInt8) : (⟨#[102]⟩ : ByteArray) ++ toBA [x1, x2] = ⟨#[102, x1, x2]⟩ := by
  apply ByteArray.ext
  simp [toBA]

set_option maxRecDepth 100000 in
set_option maxHeartbeats 6400000 in
theorem both_any (w : World) : Calls Try.prog 41 #[] w fun e w' => e = .returned (.bool true) ∧ Upd (fun _ => False) w w' := by
  go_enter Try.func41, Try.ntmps41
  go_wp2
  go_loopw [1, 2] (fun lv i wr => ∃ k : Nat, k ≤ 256 ∧ i = .int .i64 k ∧ wr.ownsRow 0 44 3 lv k ((List.range k).flatMap fCells) ∧ (∀ q, lv.ownBlock = some q → w.heap.size ≤ q) ∧ Upd (fun _ => False) w wr) (fun _ i _ => 256 - (intOf i).toNat)
  case atStart => exact ⟨0, by omega, rfl, World.ownsRow_nil _ _ _ _, (fun q h => by cases h), Upd.refl _ _⟩
  case round =>
    obtain ⟨k, hk, rfl, hrow, hlow, hup⟩ := hrel
    obtain ⟨la, lc, hlv, hlc1, hlc2, -, -⟩ := row_shape3 hrow
    subst hlv
    have HROW := hid hrow; have HLOW := hid hlow; have HUP := hid hup
    by_cases hlt : k < 256
    · have hlt' : (k : Int) < 256 := by omega
      obtain ⟨a, ha⟩ : ∃ a, a = k / 16 := ⟨_, rfl⟩
      obtain ⟨m, hm⟩ : ∃ m, m = k % 16 := ⟨_, rfl⟩
      have e1 : (k : Int) / 16 = (a : Int) := by omega
      have e2 : (k : Int) % 16 = (m : Int) := by omega
      have hu1 := u8_wrap a (by omega)
      have hu2 := u8_wrap m (by omega)
      obtain ⟨x1, hx1⟩ : ∃ x1, x1 = UInt8.ofNat (97 + a) := ⟨_, rfl⟩
      obtain ⟨x2, hx2⟩ : ∃ x2, x2 = UInt8.ofNat (97 + m) := ⟨_, rfl⟩
      rw [← hx1] at hu1
      rw [← hx2] at hu2
      have HX := hid (show fName k = ⟨#[102, x1, x2]⟩ by unfold fName; rw [hx1, hx2, ha, hm])
      have ha16 : a < 16 := by omega
      have hm16 : m < 16 := by omega
      have hcv := run_string_of (bytes_new wr [x1, x2])
      have hcv' : (convert 30 9 (.slice (some ⟨wr.heap.size, 0, none⟩) 2 2)).run Try.prog (wr.alloc (.cells #[.int .u8 (x1.toNat : Int), .int .u8 (x2.toNat : Int)] 5)) = .ok (.string (toBA [x1, x2])) (wr.alloc (.cells #[.int .u8 (x1.toNat : Int), .int .u8 (x2.toNat : Int)] 5)) := hcv
      obtain ⟨W0, hW0⟩ : ∃ W0, W0 = wr.alloc (.cells #[.int .u8 (x1.toNat : Int), .int .u8 (x2.toNat : Int)] 5) := ⟨_, rfl⟩
      have hu0 : Upd (fun _ => False) wr W0 := by rw [hW0]; exact (Upd.refl _ _).alloc _
      have hs0 : W0.heap.size = wr.heap.size + 1 := by rw [hW0]; simp
      obtain ⟨lv3, w3, hrun3, hrow3, hu3, hat3⟩ := run_append_file1 (w := W0) (nm := ⟨#[102]⟩ ++ toBA [x1, x2]) (dv := .slice none 0 0) (sy := 0) (owns_upd hrow hu0 (fun _ _ h => h)) (by omega) rfl 33
      obtain ⟨la3, lc3, hls3, -, -, -, -⟩ := row_shape3 hrow3
      have hlow3 : ∀ q, lv3.ownBlock = some q → w.heap.size ≤ q := fun q hq => (hat3 q hq).elim (hlow q) (fun h => by have := hup.size; omega)
      have hup3 : Upd (fun _ => False) w w3 := (hup.trans hu0 (fun _ _ h => h)).trans hu3 (fun q hq e => by have := hlow q e; omega)
      rw [fName_app, ← HX.out] at hrow3
      rw [hs0, hls3] at hrun3
      rw [hls3] at hrow3 hlow3
      rw [hW0] at hrun3
      obtain ⟨N3, hN3⟩ : ∃ N3, N3 = k + 1 := ⟨_, rfl⟩
      rw [← hN3] at hrun3 hrow3 hlow3
      have HN3 := hid hN3
      have hflat : (List.range (k + 1)).flatMap fCells = (List.range k).flatMap fCells ++ [.string (fName k), .slice none 0 0, .int .i64 0] := by rw [List.range_succ, List.flatMap_append]; simp [fCells]
      rw [← hflat] at hrow3
      have HR3 := hid hrun3; have HROW3 := hid hrow3; have HLOW3 := hid hlow3; have HUP3 := hid hup3
      clear hrow hlow hup ha hm hx1 hx2 hcv hrun3 hrow3 hu3 hat3 hls3 hlow3 hup3 hflat hN3 hW0 hu0 hs0
      go_wp2_with (at_builtin; refine wpList_append_run rfl _ _ _ rfl rfl rfl HR3.out ?_)
      go_roundw
      case rel => exact ⟨N3, by have := HN3.out; omega, by rw [HN3.out]; go_num, by rw [HN3.out]; rw [HN3.out] at HROW3; exact HROW3.out, HLOW3.out, HUP3.out⟩
      case measure => simp [intOf]; omega
    · obtain rfl : k = 256 := by omega
      have hfi := both_filesIn hrow
      have HFI := hid hfi
      have hz : ∀ f ∈ (List.range 256).map fFile, f.data.length ≤ 1000000000 := fun f hf => by obtain ⟨i, -, rfl⟩ := List.mem_map.1 hf; show ([] : List UInt8).length ≤ _; simp
      have HZ := hid hz
      clear hrow hlow hup hfi hz
      go_wp2_with fail
      have hload := load_any (cap := 9) HFI.out
      rw [load_all] at hload
      refine hload.mono ?_
      clear hload
      rintro e w1 ⟨hu1, s, rfl, hs1, hs2, hs3⟩
      have HFI1 := hid (HFI.out.keep hu1)
      have HU1 := hid hu1; have HS1 := hid hs1; have HS2 := hid hs2; have HS3 := hid hs3
      clear hu1 hs1 hs2 hs3
      go_wp2_with fail
      have hload := refLoad_any (cap := 9) HFI1.out HZ.out
      rw [load_all] at hload
      refine hload.mono ?_
      clear hload
      rintro e w2 ⟨hu2, r, rfl, hr1, hr2, hr3, hr4⟩
      go_upto_region 10 with (go_at_call 13; refine (num_any _ _).mono ?_; rintro x w' ⟨rfl, hww⟩; obtain rfl := hww.symm)
      have hU2 : Upd (fun _ => False) wr w2 := HU1.out.trans hu2 (fun _ _ h => h)
      go_wp2
      obtain ⟨wn, hwn⟩ : ∃ wn, wn = w2.alloc (.cells #[.string ⟨#[102, 97, 97]⟩, .string ⟨#[102, 112, 112]⟩, .string ⟨#[110, 101, 119]⟩, .string ⟨#[]⟩] 9) := ⟨_, rfl⟩
      rw [← hwn]
      obtain ⟨nb, hnb⟩ : ∃ nb, nb = w2.heap.size := ⟨_, rfl⟩
      rw [← hnb]
      have hun : Upd (fun _ => False) w2 wn := by rw [hwn]; exact (Upd.refl _ _).alloc _
      have hbl : wn.heap[nb]? = some (.cells #[.string ⟨#[102, 97, 97]⟩, .string ⟨#[102, 112, 112]⟩, .string ⟨#[110, 101, 119]⟩, .string ⟨#[]⟩] 9 (0, 0)) := by rw [hwn, hnb]; exact heap_alloc_new w2 _
      have hwr0 := HUP.out.size
      have h12 := HU1.out.size
      have hs2 := HS2.out
      have hdr0 : DR w wn s r nb (.cells #[.string ⟨#[102, 97, 97]⟩, .string ⟨#[102, 112, 112]⟩, .string ⟨#[110, 101, 119]⟩, .string ⟨#[]⟩] 9 (0, 0)) := by
        refine ⟨(HS1.out.upd hu2 (fun _ _ h => h)).upd hun (fun _ _ h => h), hr1.upd hun (fun _ _ h => h), fun k hk ho => ?_, fun k hk => Nat.le_trans hwr0 (HS3.out k hk), fun k hk => Nat.le_trans hwr0 (Nat.le_trans h12 (hr4 k hk)), (HUP.out.trans hU2 (fun _ _ h => h)).trans hun (fun _ _ h => h), hbl, ⟨fun hm => ?_, fun hm => ?_⟩, by rw [hs2]; exact hr2, hr3⟩
        · have := HS1.out.lt k hk; have := hr4 k ho; omega
        · have := (HS1.out.upd hu2 (fun _ _ h => h)).lt nb hm; omega
        · have := hr1.lt hm; omega
      have hfl : 256 ≤ s.abs.files.length := by rw [hs2]; simp
      have HDR0 := hid hdr0; have HFL := hid hfl
      obtain ⟨dp, hdp⟩ : ∃ dp, dp = s.p := ⟨_, rfl⟩
      obtain ⟨rp, hrp⟩ : ∃ rp, rp = r.p := ⟨_, rfl⟩
      rw [← hdp, ← hrp]
      have HDP := hid hdp; have HRP := hid hrp
      clear hU2 hwn hnb hun hbl hwr0 h12 hs2 hdr0 hfl hdp hrp hu2 hr1 hr2 hr3 hr4
      go_loopw [8] (fun i wx => ∃ k : Nat, k ≤ 4 ∧ i = .int .i64 k ∧ ∃ s' r', DR w wx s' r' nb (.cells #[.string ⟨#[102, 97, 97]⟩, .string ⟨#[102, 112, 112]⟩, .string ⟨#[110, 101, 119]⟩, .string ⟨#[]⟩] 9 (0, 0)) ∧ s'.p = dp ∧ r'.p = rp ∧ 256 ≤ s'.abs.files.length) (fun i _ => 4 - (intOf i).toNat)
      case atStart => exact ⟨0, by omega, rfl, s, r, HDR0.out, HDP.out.symm, HRP.out.symm, HFL.out⟩
      case round =>
        obtain ⟨k, hk, rfl, s', r', hdr, hp1, hp2, hlen⟩ := hrel
        have HDR := hid hdr; have HP1 := hid hp1; have HP2 := hid hp2; have HLEN := hid hlen
        by_cases hlt4 : k < 4
        · obtain ⟨nm, hnm⟩ : ∃ nm, ∀ W : World, W.heap[nb]? = some (.cells #[.string ⟨#[102, 97, 97]⟩, .string ⟨#[102, 112, 112]⟩, .string ⟨#[110, 101, 119]⟩, .string ⟨#[]⟩] 9 (0, 0)) → W.cell? ⟨nb, k, none⟩ = some (.string nm) := by
            have hk4 : k = 0 ∨ k = 1 ∨ k = 2 ∨ k = 3 := by omega
            rcases hk4 with rfl | rfl | rfl | rfl
            · exact ⟨_, fun W h => by rw [cell_of_row W _ _ _ _ _ h]; rfl⟩
            · exact ⟨_, fun W h => by rw [cell_of_row W _ _ _ _ _ h]; rfl⟩
            · exact ⟨_, fun W h => by rw [cell_of_row W _ _ _ _ _ h]; rfl⟩
            · exact ⟨_, fun W h => by rw [cell_of_row W _ _ _ _ _ h]; rfl⟩
          have c0 := hnm _ hdr.blk
          have hnb1 := World.block_lt_of_cell? _ _ c0
          have HNM := hid hnm
          have hnd : NamesND s'.abs := names_nodup hdr.sIn
          obtain ⟨f1, f2⟩ := cCreate_full hlen nm
          have hal := cCreate_alike hdr.alike hnd nm
          obtain ⟨c, hc⟩ : ∃ c, c = (cCreate s'.abs nm).1 := ⟨_, rfl⟩
          have hc0 : (c == 0) = false := by rw [hc]; simpa using f1
          have hcr := refCreate_any hdr.rIn nm
          rw [← hal.1, ← hc, hp2] at hcr
          have HCR := hid hcr; have HAL := hid hal; have HF2 := hid f2; have HC := hid hc
          clear hdr hp1 hp2 hlen hnm hnd f1 f2 hal hc hcr
          go_wp2_with fail
          refine HCR.out.mono ?_
          rintro e w5 ⟨rfl, r2, g1, g2, g3⟩
          obtain ⟨hdr5, hp5⟩ := HDR.out.stepR g1 (by have h := HAL.out.2; rw [HF2.out] at h; exact h.trans g2.symm) (g3 HDR.out.sorted)
          have c1 := HNM.out _ hdr5.blk
          have hnb5 := World.block_lt_of_cell? _ _ c1
          have hcd := create_any hdr5.sIn nm
          rw [createA_c, HP1.out, ← HC.out] at hcd
          have HCD := hid hcd; have HDR5 := hid hdr5; have HP5 := hid (hp5.trans HP2.out)
          clear g1 g2 g3 hdr5 hp5 hcd c0
          go_wp2_with (go_at_call 13; refine (num_any _ _).mono ?_; rintro x w' ⟨rfl, hww⟩; obtain rfl := hww.symm)
          refine HCD.out.mono ?_
          rintro e w6 ⟨rfl, s2, g1, g2⟩
          obtain ⟨hdr6, hp6⟩ := HDR5.out.stepD2 g1 (g2.trans HF2.out)
          have HDR6 := hid hdr6; have HP6 := hid (hp6.trans HP1.out)
          have HLEN6 := hid (show 256 ≤ s2.abs.files.length by rw [g2, HF2.out]; exact HLEN.out)
          clear g1 g2 hdr6 hp6 c1
          go_wp2_with (go_at_call 13; refine (num_any _ _).mono ?_; rintro x w' ⟨rfl, hww⟩; obtain rfl := hww.symm)
          go_roundw
          case rel => exact ⟨k + 1, by omega, by go_num, s2, r2, HDR6.out, HP6.out, HP5.out, HLEN6.out⟩
          case measure => simp [intOf]; omega
        · obtain rfl : k = 4 := by omega
          clear hdr hp1 hp2 hlen
          have hren := rename_any HDR.out.sIn ⟨#[110, 111, 110, 101]⟩ ⟨#[102, 97, 97]⟩
          rw [renameA_c, HP1.out] at hren
          have HREN := hid hren
          clear hren
          go_wp2_with fail
          refine HREN.out.mono ?_
          rintro e w7 ⟨rfl, s7, g1, g2⟩
          have hnd : NamesND s'.abs := names_nodup HDR.out.sIn
          have hal := cRename_alike HDR.out.alike hnd ⟨#[110, 111, 110, 101]⟩ ⟨#[102, 97, 97]⟩
          have hren := refRename_any (HDR.out.stepD g1).2.1 HDR.out.sorted ⟨#[110, 111, 110, 101]⟩ ⟨#[102, 97, 97]⟩
          rw [← hal.1, HP2.out] at hren
          obtain ⟨c, hc⟩ : ∃ c, c = (cRename s'.abs ⟨#[110, 111, 110, 101]⟩ ⟨#[102, 97, 97]⟩).1 := ⟨_, rfl⟩
          rw [← hc] at hren ⊢
          have HREN2 := hid hren; have HG1 := hid g1; have HG2 := hid g2; have HAL := hid hal
          clear hren g1 g2 hnd hal hc
          go_wp2_with (go_at_call 13; refine (num_any _ _).mono ?_; rintro x w' ⟨rfl, hww⟩; obtain rfl := hww.symm)
          refine HREN2.out.mono ?_
          rintro e w8 ⟨rfl, r8, g1, g2, g3⟩
          obtain ⟨hdr8, hp8, hq8⟩ := HDR.out.mk2 HG1.out g1 (by rw [HG2.out]; exact HAL.out.2.trans g2.symm) g3
          have HDR8 := hid hdr8; have HP8 := hid (hp8.trans HP1.out); have HQ8 := hid (hq8.trans HP2.out)
          clear g1 g2 g3 hdr8 hp8 hq8
          have hren := rename_any HDR8.out.sIn ⟨#[102, 97, 97]⟩ ⟨#[102, 112, 112]⟩
          rw [renameA_c, HP8.out] at hren
          have HREN3 := hid hren
          clear hren
          go_wp2_with fail
          refine HREN3.out.mono ?_
          rintro e w9 ⟨rfl, s9, g1, g2⟩
          have hnd : NamesND s7.abs := names_nodup HDR8.out.sIn
          have hal := cRename_alike HDR8.out.alike hnd ⟨#[102, 97, 97]⟩ ⟨#[102, 112, 112]⟩
          have hren := refRename_any (HDR8.out.stepD g1).2.1 HDR8.out.sorted ⟨#[102, 97, 97]⟩ ⟨#[102, 112, 112]⟩
          rw [← hal.1, HQ8.out] at hren
          obtain ⟨d, hd⟩ : ∃ d, d = (cRename s7.abs ⟨#[102, 97, 97]⟩ ⟨#[102, 112, 112]⟩).1 := ⟨_, rfl⟩
          rw [← hd] at hren ⊢
          have HREN4 := hid hren; have HG3 := hid g1; have HG4 := hid g2; have HAL4 := hid hal
          clear hren g1 g2 hnd hal hd
          go_wp2_with (go_at_call 13; refine (num_any _ _).mono ?_; rintro x w' ⟨rfl, hww⟩; obtain rfl := hww.symm)
          refine HREN4.out.mono ?_
          rintro e w10 ⟨rfl, r10, g1, g2, g3⟩
          obtain ⟨hdr10, hp10, hq10⟩ := HDR8.out.mk2 HG3.out g1 (by rw [HG4.out]; exact HAL4.out.2.trans g2.symm) g3
          have hfa := files_any hdr10.sIn
          rw [hp10, HP8.out] at hfa
          have HFA := hid hfa
          have HDR10 := hid hdr10; have HQ10 := hid (hq10.trans HQ8.out)
          clear g1 g2 g3 hdr10 hp10 hq10 hfa
          go_wp2_with fail
          refine HFA.out.mono ?_
          rintro e w11 ⟨v1, l1, rfl, k1, k2, k3⟩
          have hfr := refFiles_any (HDR10.out.rIn.upd k3 (fun _ _ h => h))
          rw [HQ10.out] at hfr
          have HFR := hid hfr
          obtain ⟨a1, c1, rfl, -, -, -⟩ := k1.shape
          have HK2 := hid k2; have HK3 := hid k3
          clear k1 k2 k3 hfr
          go_wp2_with fail
          refine HFR.out.mono ?_
          rintro e w12 ⟨v2, l2, rfl, k1, k2, k3⟩
          obtain ⟨a2, c2, rfl, -, -, -⟩ := k1.shape
          have hll : l1.length = l2.length := by
            have h := sorted_fileList HDR10.out.sIn HDR10.out.alike HDR10.out.sorted
            have h1 := congrArg List.length (HK2.out.trans (h.symm.trans k2.symm))
            simpa using h1
          have HFIN := hid ((HDR10.out.upd.trans HK3.out (fun _ _ h => h)).trans k3 (fun _ _ h => h))
          obtain ⟨n1, hn1⟩ : ∃ n1, n1 = l1.length := ⟨_, rfl⟩
          rw [← hll, ← hn1]
          clear k1 k2 k3 hll hn1
          go_wp2
          go_ret
          exact ⟨by first | rfl | simp, HFIN.out⟩

end Go.Proofs.Ytohpgmeflmppaaa
