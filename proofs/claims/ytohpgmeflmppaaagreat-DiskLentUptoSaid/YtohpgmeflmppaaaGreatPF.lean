/-
  makes, walked: a twin.
  plays: any call, of any kind.
-/
import Derived.Test.YtohpgmeflmppaaaGreatPE
import Derived.Test.YtohpgmeflmppaaaGreatGU
import Derived.Test.YtohpgmeflmppaaaGreatPD
import Derived.Test.YtohpgmeflmppaaaGreatPC
namespace Go.Proofs.YtohpgmeflmppaaaGreat
set_option linter.unusedVariables false
set_option linter.unusedSimpArgs false
set_option linter.unnecessarySimpa false
set_option linter.unusedSectionVars false
open Go Go.RowKit

theorem Loose.plain {w0 w3 : World} {N : Nat} {S : WS} {X : Nat → Prop} {vs : List Value} (h : Loose w0 w3 N S X vs) : Loose w0 w3 N S (fun _ => False) vs := ⟨h.own, h.old, h.size, h.new, h.apart, fun q h => h.elim⟩

set_option maxRecDepth 100000 in
set_option maxHeartbeats 6400000 in
theorem makes_twin {w0 w : World} {S : WS} {o : OpI} {i : Nat} (hw : WOn w0 w S) (hi : i < S.ds.length) (ho : OpShapes o) (hroom : S.ds.length < 5) (hk : o.kind = 19) (hn : S.b.n + 68719476736 ≤ 4611686018427387904) :
    Calls Tryz.prog 44 #[.pointer (some ⟨S.p, 0, none⟩), .agg o.cells, .int .i64 i] w fun e w' => e = .returned (.bool true) ∧ Went w0 w S 68719476736 w' := by
  obtain ⟨ba, bc, ca, cl, cc, fa, fl, fc, hb1, hc1, hf1⟩ := ho.get
  have hcells : o.cells = #[.int .i64 19, .int .i64 o.obj, .string o.name, .string o.dest, .slice ba o.bs.length bc, .int .i64 o.pos, .int .i64 o.n, .slice ca cl cc, .slice fa fl fc] := by unfold OpI.cells; rw [hk, hb1, hc1, hf1]
  rw [hcells]
  have hi' : i < S.rs.length := by rw [hw.mem.len]; exact hi
  obtain ⟨gd, gr, dc, rc, hdc, hrc, hPC⟩ := plays_cells hw #[.int .i64 19, .int .i64 o.obj, .string o.name, .string o.dest, .slice ba o.bs.length bc, .int .i64 o.pos, .int .i64 o.n, .slice ca cl cc, .slice fa fl fc]
  obtain ⟨hal, hso⟩ := hw.pair i hi hi'
  have hsf : S.rs[i].F.map FV.abs = fileList S.ds[i] := sorted_fileList (hw.mem.dsIn i hi) hal hso
  have hcr : S.ds[i].cap = S.rs[i].room := hal.cap
  have HD := hid (show ∀ W, S.ds[i].In W → Calls Tryz.prog 16 #[.pointer (some ⟨S.ds[i].p, 0, none⟩)] W fun e W' => ∃ v l, e = .returned v ∧ FilesAt W' W.heap.size v l ∧ l.map FV.abs = fileList S.ds[i] ∧ Upd (fun _ => False) W W' from fun W hW => files_any hW)
  have HR := hid (show ∀ W, S.rs[i].In W → Calls Tryz.prog 18 #[.pointer (some ⟨S.rs[i].p, 0, none⟩)] W fun e W' => ∃ v l, e = .returned v ∧ FilesAt W' W.heap.size v l ∧ l.map FV.abs = fileList S.ds[i] ∧ Upd (fun _ => False) W W' from fun W hW => by rw [← hsf]; exact refFiles_any hW)
  have HSF := hid (show ∀ V v1 v2 l1 l2 b1 b2, FilesAt V b1 v1 l1 → FilesAt V b2 v2 l2 → l1.map FV.abs = l2.map FV.abs → Calls Tryz.prog 17 #[v1, v2] V fun e V' => e = .returned (.bool true) ∧ Upd (fun _ => False) V V' from fun V v1 v2 l1 l2 b1 b2 h1 h2 h3 => by
    refine (sameFiles_any h1 h2).mono ?_
    rintro e V' ⟨b, rfl, hb, hu⟩
    exact ⟨by rw [hb.2 h3], hu⟩)
  have hshort : ∀ l : List FV, l.map FV.abs = fileList S.ds[i] → l.length ≤ 256 ∧ ∀ f ∈ l, f.data.length ≤ 67108864 := fun l hl => by
    have hlen := congrArg List.length hl
    have hle := fileList_le (hw.mem.dsIn i hi)
    refine ⟨by simp at hlen; omega, fun f hf => ?_⟩
    have hm : f.abs ∈ S.ds[i].abs.files := (fileList_files_perm (hw.mem.dsIn i hi)).mem_iff.1 (by rw [← hl]; exact List.mem_map_of_mem hf)
    obtain ⟨r, hr, he⟩ := List.mem_map.1 hm
    have h1 := (hw.mem.dsIn i hi).data_le hr
    have h2 : f.data = r.data := by have := congrArg FileA.data he; exact this.symm
    rw [h2]; exact h1
  have HSHORT := hid hshort
  have HCAP := hid (show ∀ W, S.ds[i].In W → Calls Tryz.prog 20 #[.pointer (some ⟨S.ds[i].p, 0, none⟩)] W fun e W' => e = .returned (.int .i64 (S.rs[i].room : Int)) ∧ W' = W from fun W hW => by
    refine (capacity_any hW).mono ?_
    rintro e W' ⟨rfl, rfl⟩
    exact ⟨by rw [hcr], rfl⟩)
  have HLD := hid (show ∀ W v b l, FilesAt W b v l → l.map FV.abs = fileList S.ds[i] → Calls Tryz.prog 32 #[.int .i64 (S.rs[i].room : Int), v] W fun e w' => LoadRes W (S.rs[i].room : Int) (.inr (fileList S.ds[i])) e w' from fun W v b l hf hl => by
    have h := load_any (cap := (S.rs[i].room : Int)) hf.toIn
    rw [← hcr, load_told (hw.mem.dsIn i hi) hl, hcr] at h
    exact h)
  have HLR := hid (show ∀ W v b l, FilesAt W b v l → l.map FV.abs = fileList S.ds[i] → Calls Tryz.prog 59 #[.int .i64 (S.rs[i].room : Int), v] W fun e w' => RefLoadRes W (S.rs[i].room : Int) (.inr (fileList S.ds[i])) e w' from fun W v b l hf hl => by
    have h := refLoad_any (cap := (S.rs[i].room : Int)) hf.toIn (fun f hfm => by
      obtain ⟨x, hx, rfl⟩ := List.mem_map.1 hfm
      have := (hshort l hl).2 x hx
      show x.data.length ≤ _
      omega)
    rw [← hcr, load_told (hw.mem.dsIn i hi) hl, hcr] at h
    exact h)
  have HW := hid hw
  have HPC := hid hPC
  have HIN := hid (show ∀ W, Upd (fun _ => False) w W → S.ds[i].In W ∧ S.rs[i].In W from fun W hW => ⟨(hw.keep hW).mem.dsIn i hi, (hw.keep hW).mem.rsIn i hi'⟩)
  have HROOM := hid (show ∀ W, Upd (fun _ => False) w W → W.cell? ⟨S.rs[i].p, 0, none⟩ = some (.int .i64 (S.rs[i].room : Int)) ∧ S.rs[i].p < W.heap.size from fun W hW => ⟨((hw.keep hW).mem.rsIn i hi').cell 0, ((hw.keep hW).mem.rsIn i hi').plt⟩)
  obtain ⟨F, hF⟩ : ∃ F, F = fileList S.ds[i] := ⟨_, rfl⟩
  obtain ⟨RM, hRM⟩ : ∃ RM : Int, RM = (S.rs[i].room : Int) := ⟨_, rfl⟩
  rw [← hF] at HD HR HSHORT HLD HLR
  rw [← hRM] at HCAP HLD HLR HROOM
  obtain ⟨dp, hdp⟩ : ∃ dp, dp = S.ds[i].p := ⟨_, rfl⟩
  obtain ⟨rp, hrp⟩ : ∃ rp, rp = S.rs[i].p := ⟨_, rfl⟩
  rw [← hdp] at HD HCAP
  rw [← hrp] at HR HROOM
  obtain ⟨L, hL⟩ : ∃ L, L = S.ds.length := ⟨_, rfl⟩
  have hlenr := hw.mem.len
  have HRM2 := hid hroom
  have hiL : i < L := by omega
  have hL5 : ¬ (5 : Int) ≤ (L : Int) := by omega
  have hdc' : L ≤ dc := by omega
  have hrc' : L ≤ rc := by omega
  have hpl := lt_of_heap hw.mem.top
  obtain ⟨g0, hge0, hg00⟩ := (hPC _ ((Upd.refl (fun _ => False) w).alloc _) (heap_alloc_new w _)).row0 i hi
  obtain ⟨g1, hge1, hg10⟩ := (hPC _ ((Upd.refl (fun _ => False) w).alloc _) (heap_alloc_new w _)).row1 i hi'
  subst hge0 hge1
  have HC := hid (show ∀ W, Upd (fun _ => False) (w.alloc (.cells #[.int .i64 19, .int .i64 o.obj, .string o.name, .string o.dest, .slice ba o.bs.length bc, .int .i64 o.pos, .int .i64 o.n, .slice ca cl cc, .slice fa fl fc] 42)) W → W.cell? ⟨S.p, 0, none⟩ = some (.slice (some ⟨g0, 0, none⟩) L dc) ∧ W.cell? ⟨S.p, 1, none⟩ = some (.slice (some ⟨g1, 0, none⟩) L rc) ∧ W.cell? ⟨g0, i, none⟩ = some (.pointer (some ⟨dp, 0, none⟩)) ∧ W.cell? ⟨g1, i, none⟩ = some (.pointer (some ⟨rp, 0, none⟩)) ∧ S.p < W.heap.size ∧ g0 < W.heap.size ∧ g1 < W.heap.size ∧ Upd (fun _ => False) w W from fun W hW => by
    have hUW := ((Upd.refl (fun _ => False) w).alloc (.cells #[.int .i64 19, .int .i64 o.obj, .string o.name, .string o.dest, .slice ba o.bs.length bc, .int .i64 o.pos, .int .i64 o.n, .slice ca cl cc, .slice fa fl fc] 42)).trans hW (fun _ _ h => h)
    have hq := hPC W hUW (hW.get (heap_alloc_new w _) (fun h => h))
    obtain ⟨g, e, h0⟩ := hq.row0 i hi
    obtain ⟨g', e', h1⟩ := hq.row1 i hi'
    injection e with e; injection e with e; subst e
    injection e' with e'; injection e' with e'; subst e'
    rw [← hdp] at h0
    rw [← hrp] at h1
    exact ⟨by rw [hL]; exact hq.c0, by rw [hL, ← hlenr]; exact hq.c1, h0, h1, World.block_lt_of_cell? _ _ hq.c0, World.block_lt_of_cell? _ _ h0, World.block_lt_of_cell? _ _ h1, hUW⟩)
  have c0w : w.cell? ⟨S.p, 0, none⟩ = some (.slice (some ⟨g0, 0, none⟩) L dc) := by
    have h := (HC.out _ (Upd.refl _ _)).1
    rw [World.cell?_of_block (w := w) (a := ⟨S.p, 0, none⟩) (heap_alloc_past w _ S.p hpl)] at h
    exact h
  clear hw ho hb1 hc1 hf1 hcells hk hal hso hsf hcr hPC hdp hrp hF hRM hL hlenr hroom hdc hrc hg00 hg10 hshort
  go_enter Tryz.func44, Tryz.ntmps44
  go_upto_region 9 with fail
  obtain ⟨wb, hwb⟩ : ∃ wb, wb = w.alloc (.cells #[.int .i64 19, .int .i64 o.obj, .string o.name, .string o.dest, .slice ba o.bs.length bc, .int .i64 o.pos, .int .i64 o.n, .slice ca cl cc, .slice fa fl fc] 42) := ⟨_, rfl⟩
  rw [← hwb] at HC ⊢
  obtain ⟨c0, c1, d0, d1, hp0, hg0, hg1, hub⟩ := HC.out wb (Upd.refl _ _)
  have HUB := hid hub
  clear hwb c0w hub
  go_wp2_with fail
  refine (HD.out _ (HIN.out wb HUB.out).1).mono ?_
  rintro e w1 ⟨v1, l1, rfl, hf1, hl1, hu1⟩
  obtain ⟨a1, k1, hv1, hk11, hk12, -⟩ := hf1.shape
  rw [hv1] at hf1 ⊢
  have HF1 := hid hf1; have HL1 := hid hl1; have HU1 := hid hu1
  obtain ⟨c0', c1', d0', d1', hp1, hg01, hg11, hub1⟩ := HC.out w1 hu1
  have HUB1 := hid hub1
  clear hf1 hl1 hu1 hv1 c0 c1 d0 d1 hub1
  go_wp2_with fail
  refine (HR.out _ (HIN.out w1 HUB1.out).2).mono ?_
  rintro e w2 ⟨v2, l2, rfl, hf2, hl2, hu2⟩
  have HU2 := hid (HU1.out.trans hu2 (fun _ _ h => h))
  have HF2 := hid (HF1.out.upd hu2 (fun _ _ h => h))
  have hs := HSF.out w2 _ v2 l1 l2 _ _ HF2.out hf2 (HL1.out.trans hl2.symm)
  have HS := hid hs
  clear hf2 hl2 hu2 hs c0' c1' d0' d1'
  go_wp2_with fail
  refine HS.out.mono ?_
  rintro e w3 ⟨rfl, hu3⟩
  have HU3 := hid (HU2.out.trans hu3 (fun _ _ h => h))
  have HF3 := hid (HF2.out.upd hu3 (fun _ _ h => h))
  obtain ⟨c0, c1, d0, d1, hp3, hg03, hg13, hub3⟩ := HC.out w3 HU3.out
  have HUB3 := hid hub3
  clear hu3 hub3
  go_wp2_with fail
  refine (HCAP.out _ (HIN.out w3 HUB3.out).1).mono ?_
  rintro e w' ⟨rfl, hww⟩
  obtain rfl := hww.symm
  go_wp2_with fail
  refine (HLD.out w3 _ _ l1 HF3.out HL1.out).mono ?_
  rintro e w4 ⟨hu4, s, rfl, hs1, hs2, hs3⟩
  have HU4 := hid (HU3.out.trans hu4 (fun _ _ h => h)); have HU4' := hid hu4
  have HF4 := hid (HF3.out.upd hu4 (fun _ _ h => h))
  have HS1 := hid hs1; have HS2 := hid hs2; have HS3 := hid hs3
  obtain ⟨c0', c1', d0', d1', hp4, hg04, hg14, hub4⟩ := HC.out w4 HU4.out
  obtain ⟨r0, hrp4⟩ := HROOM.out w4 hub4
  have HUB4 := hid hub4; have HUB4d := hid hub4.drew
  obtain ⟨sp, hsp⟩ : ∃ sp, sp = s.p := ⟨_, rfl⟩
  rw [← hsp]
  have HSP := hid hsp
  have HLIMB := hid (show ∀ W, Upd (fun _ => False) w4 W → W.cell? ⟨S.p, 1, none⟩ = some (.slice (some ⟨g1, 0, none⟩) L rc) ∧ W.cell? ⟨g1, i, none⟩ = some (.pointer (some ⟨rp, 0, none⟩)) ∧ W.cell? ⟨rp, 0, none⟩ = some (.int .i64 RM) from fun W hW => by
    obtain ⟨-, k1, -, k2, -, -, -, k3⟩ := HC.out W (HU4.out.trans hW (fun _ _ h => h))
    exact ⟨k1, k2, (HROOM.out W k3).1⟩)
  have HINR := hid (show ∀ W, Upd (fun _ => False) w4 W → S.rs[i].In W from fun W hW => (HIN.out W (HUB4.out.trans hW (fun _ _ h => h))).2)
  clear hu4 hs1 hs2 hs3 hub4 c0 c1 d0 d1 hsp
  go_wp2_with fail
  have hu4d := hid (show Upd (fun _ => False) w4 w4.drew from (Upd.refl _ w4).drew)
  go_region_held3 (fun W => W.cell? ⟨S.p, 1, none⟩ = some (.slice (some ⟨g1, 0, none⟩) L rc) ∧ W.cell? ⟨g1, i, none⟩ = some (.pointer (some ⟨rp, 0, none⟩)) ∧ W.cell? ⟨rp, 0, none⟩ = some (.int .i64 RM))
    (first
      | go_keep
      | exact HLIMB.out _ huy
      | exact HLIMB.out _ hux)
    (first
      | (go_at_call 18; refine (HR.out _ (HINR.out _ hu4d.out)).mono ?_; rintro e wx ⟨vx, lx, rfl, hfx, hlx, h0x⟩; have hux : Upd (fun _ => False) w4 wx := hu4d.out.trans h0x (fun _ _ h => h))
      | (go_at_call 59; refine (HLR.out _ _ _ lx hfx hlx).mono ?_; rintro e wy ⟨h0y, r, rfl, hr1, hr2, hr3, hr4⟩; have huy : Upd (fun _ => False) w4 wy := hux.trans h0y (fun _ _ h => h))
      | fail)
  all_goals
    have hwy : Upd (fun _ => False) w wy := HUB4.out.trans huy (fun _ _ h => h)
    have hon : WOn w0 wy S := HW.out.keep hwy
    have h34 := HU4'.out.size
    have hxy : w4.heap.size ≤ wx.heap.size := hux.size
    have hw3 : w.heap.size ≤ w3.heap.size := HUB3.out.size
    have hs2 := HS2.out
    have hmade : Made w3.heap.size wy S (ptrD s) (ptrR r) 0 := by
      refine .inr ⟨s, r, rfl, rfl, rfl, HS1.out.upd huy (fun _ _ h => h), hr1, fun q hq => ⟨fun L' hL' => ?_, HS3.out q hq⟩, fun q hq => ⟨fun L' hL' => ?_, by have := hr4 q hq; omega⟩, fun q hq ho => ?_, by rw [hs2]; exact hr2, hr3, by rw [hs2]; exact ⟨rfl, rfl⟩⟩
      · have := HW.out.mem.lt hL'; have := HS3.out q hq; omega
      · have := HW.out.mem.lt hL'; have := hr4 q hq; omega
      · have := HS1.out.lt q hq; have := hr4 q ho; omega
    have hfy := HF4.out.upd huy (fun _ _ h => h)
    have hloose := (hfy.loose HW.out HUB.out.size (Nat.le_refl _) hwy.size)
    obtain ⟨hn256, hsh⟩ := HSHORT.out l1 HL1.out
    have hwide : ∀ v ∈ l1.map FV.dv, ∀ q, v.ownBlock = some q → q < w3.heap.size := fun v hv q hq => by
      obtain ⟨f, hf, rfl⟩ := List.mem_map.1 hv
      exact (HF3.out.data f hf).lt q hq
    have HON := hid hon; have HMADE := hid hmade; have HFY := hid hfy; have HLOOSE := hid hloose; have HSH := hid hsh; have HWIDE := hid hwide; have HWY := hid hwy
    unfold ptrD ptrR at HMADE
    obtain ⟨n, hnn⟩ : ∃ n, n = l1.length := ⟨_, rfl⟩
    rw [← hnn] at hn256 hk11 HFY HLOOSE ⊢
    have HN := hid hnn
    have hk12' : k1 ≤ 9223372036854775807 := by simpa [maxLen] using hk12
    have hpy : S.p < wy.heap.size := lt_of_heap hon.mem.top
    rw [← HSP.out] at HMADE
    obtain ⟨rq, hrq⟩ : ∃ rq, rq = r.p := ⟨_, rfl⟩
    rw [← hrq] at HMADE ⊢
    have HW3 := hid (Nat.le_trans HW.out.upd.size hw3)
    have HW3' := hid hw3
    clear hwy hon h34 hxy hw3 hs2 hmade hfy hloose hsh hwide hnn hrq hr1 hr2 hr3 hr4 huy h0y hux h0x hfx hlx hk12 c0' c1' d0' d1' r0
    go_wp2
    go_loopw [16] (fun iv wr => ∃ k : Nat, k ≤ n ∧ iv = .int .i64 k ∧ ∃ b, Strip w0 wy wr w.heap.size S (fun _ => False) (l1.map FV.dv) k b) (fun iv _ => n - (intOf iv).toNat)
    case atStart => exact ⟨0, Nat.zero_le _, rfl, S.b, Strip.start _ _ HON.out⟩
    case round =>
      obtain ⟨k, hk, rfl, b, hst⟩ := hrel
      have HST := hid hst
      by_cases hlt : k < n
      · have hlt1 : k < l1.length := by have := HN.out; omega
        obtain ⟨ga, kc, hv, -, -, hxl, hrc2⟩ := row_shape3 HFY.out.row
        have hfc := (flat_cells l1 k hlt1).2.1
        have hxl2 : k * 3 + 1 < (l1.flatMap FV.cells).length := by have := HN.out; omega
        obtain ⟨g, hge, hgl, hgc⟩ := hrc2 (k * 3 + 1) hxl2
        injection hv with hv1 hv2 hv3
        obtain rfl : a1 = some ⟨g, 0, none⟩ := hv1.trans hge
        clear hv1 hv2 hv3 hge
        obtain ⟨hg1', hg2', hg3'⟩ := HLOOSE.out.out g rfl
        have hgT : ¬ (g = S.p ∨ S.b.blk g ∨ (∃ v ∈ (l1.map FV.dv).take k, v.ownBlock = some g) ∨ False) := by
          rintro (e | e | ⟨v, hv, e⟩ | e)
          · have := HLOOSE.out.own 0 g (.inl ⟨rfl, .inl e⟩); omega
          · have := HLOOSE.out.own 0 g (.inl ⟨rfl, .inr (.inr (.inr e))⟩); omega
          · exact hg3' v (List.mem_of_mem_take hv) e
          · exact e
        have hc1 : wr.cell? ⟨g, k * 3 + 1, none⟩ = some l1[k].dv := by
          rw [World.cell?_of_block (w := wy) (a := ⟨g, k * 3 + 1, none⟩) (hst.upd.block g hgl hgT), hgc]
          rw [List.getElem?_eq_getElem hxl2] at hfc
          exact hfc
        have hdk : DataIs wy ((l1.map FV.dv)[k]'(by simpa using hlt1)) l1[k].data := by rw [List.getElem_map]; exact HFY.out.data _ (List.getElem_mem hlt1)
        have hnx := hst.next HLOOSE.out.plain (by simpa using hlt1) hdk
        rw [List.getElem_map] at hnx
        obtain ⟨hdr, hno, hnp, hnb⟩ := hnx
        have hPr : S.p < wr.heap.size := lt_of_heap HST.out.on.mem.top
        have hgr : g < wr.heap.size := Nat.lt_of_lt_of_le hgl hst.upd.size
        have hbmost : b.n ≤ 4611686018427387904 := by have h1 := hst.most; omega
        have HDK := hid hdk
        obtain ⟨dv, hdv⟩ : ∃ dv, dv = l1[k].dv := ⟨_, rfl⟩
        have HDV := hid hdv
        rw [← hdv] at hc1 hdr hno hnp hnb
        have hu : Upd (fun _ => False) wr wr.drew := (Upd.refl _ wr).drew
        have hst' := hst.more hu
        have hdl := HSH.out l1[k] (List.getElem_mem hlt1)
        have htake := take_any (v := dv) hst'.on.mem.book hst'.on.mem.top (hdr.upd hu (fun _ _ h => h)) hdl hbmost (fun h => hst'.on.mem.bp h) hnp hnb
        have HTAKE := hid htake; have HST' := hid hst'
        clear hst hxl hrc2 hfc hxl2 hgc hgT hdk hdr hno hnp hnb hst' hdl htake hu hdv hg1' hg2' hg3'
        go_wp2_with fail
        go_still_tail 8, (by kernel_rfl)
        change wpList _ _ _ _ _ wr.drew
        go_wp2_with fail
        refine HTAKE.out.mono ?_
        rintro e w7 ⟨rfl, b', htk⟩
        have HS7 := hid (HST'.out.step HLOOSE.out.plain (by simpa using hlt1) HDK.out (by rw [List.getElem_map, ← HDV.out]; exact htk))
        clear htk
        go_wp2
        go_roundw
        case rel => exact ⟨k + 1, by omega, by go_num, b', HS7.out⟩
        case measure => simp [intOf]; omega
      · obtain rfl : k = n := by omega
        have hjoin := (HMADE.out.later HST.out HLOOSE.out.plain HW3'.out HWIDE.out (fun q h => h.elim)).joins HST.out.on HRM2.out HW3.out HW3'.out (Nat.le_trans HWY.out.size HST.out.upd.size)
        have HJ := hid hjoin
        clear hjoin hst
        go_wp2_with fail
        refine HJ.out.mono ?_
        rintro e w6 ⟨rfl, S', p1, p2, p3, p4, p5, p6⟩
        have HF := hid (show Went w0 w S 68719476736 w6 from ⟨S', p1, p2, p3, by rw [p4]; have h1 := HST.out.most; show b.n ≤ _; omega, ((Turn.keep w.heap.size S HWY.out).trans HST.out.turn).trans p6⟩)
        clear p1 p2 p3 p4 p5 p6
        go_wp2
        go_ret
        exact ⟨rfl, HF.out⟩

end Go.Proofs.YtohpgmeflmppaaaGreat

namespace Go.Proofs.YtohpgmeflmppaaaGreat
set_option linter.unusedVariables false
set_option linter.unusedSimpArgs false
set_option linter.unnecessarySimpa false
set_option linter.unusedSectionVars false
open Go Go.RowKit

/-- What an Op that was handed in is. -/
structure OpI.Ok2 (w : World) (o : OpI) : Prop where
  ok : o.Ok w
  nil : ∀ l c, o.cv = .slice none l c → c = 0
  pos : o.pos ≤ 9223372036854775807
  cutsFew : o.cuts.length ≤ 10000000
  filesN : o.files.length ≤ 10000000

theorem Went.more {w0 w : World} {S : WS} {m m' : Int} {w' : World} (h : Went w0 w S m w') (hm : m ≤ m') : Went w0 w S m' w' := by
  obtain ⟨S', h1, h2, h3, h4, h5⟩ := h
  exact ⟨S', h1, h2, h3, by omega, h5⟩

theorem Went.before {w0 w W : World} {S : WS} {m : Int} {w' : World} (h : Went w0 W S m w') (hu : Upd (fun _ => False) w W) : Went w0 w S m w' := by
  obtain ⟨S', h1, h2, h3, h4, h5⟩ := h
  exact ⟨S', h1, h2, h3, h4, (Turn.keep w.heap.size S hu).trans (h5.low hu.size)⟩

theorem ActedM.went {w0 w : World} {S : WS} {m : Int} {e : Ending} {w' : World} (h : ActedM w0 w S m e w') : e = .returned (.bool true) ∧ Went w0 w S m w' := by
  obtain ⟨h0, S', h1, h2, h3, h4, h5, h6⟩ := h
  exact ⟨h0, S', h1, h2, h3, h4, h6⟩

theorem ActedB.went {w0 w : World} {S : WS} {m : Int} {e : Ending} {w' : World} (h : ActedB w0 w S m e w') : e = .returned (.bool true) ∧ Went w0 w S m w' := by
  obtain ⟨h0, S', h1, h2, h3, h4, h5, h6⟩ := h
  exact ⟨h0, S', h1, h2, by omega, h4, h6⟩

theorem ActedN.went {w0 w : World} {S : WS} {e : Ending} {w' : World} (h : ActedN w0 w S e w') : e = .returned (.bool true) ∧ Went w0 w S 0 w' := by
  obtain ⟨h0, S', h1, h2, h3, h4, h6⟩ := h
  exact ⟨h0, S', h1, h2, by omega, by rw [h4]; omega, h6⟩

theorem plays_any {w0 w : World} {S : WS} {o : OpI} (hw : WOn w0 w S) (ho : o.Ok2 w0) (hL : 0 < S.ds.length) (hn : S.b.n + ((o.files.length : Int) + 256) * 268435456 ≤ 4611686018427387904) :
    Calls Tryz.prog 22 #[.pointer (some ⟨S.p, 0, none⟩), .agg o.cells] w fun e w' => e = .returned (.bool true) ∧ Went w0 w S (((o.files.length : Int) + 256) * 268435456) w' := by
  have hsh : OpShapes o := OpI.shapes ho.ok
  have hpos0 : 0 ≤ (o.files.length : Int) := by omega
  have hm : ∀ (W : World) (m : Int) {e : Ending} {w' : World}, m ≤ 68719476736 → (e = .returned (.bool true) ∧ Went w0 W S m w') → Upd (fun _ => False) w W → (e = .returned (.bool true) ∧ Went w0 w S (((o.files.length : Int) + 256) * 268435456) w') := fun W m e w' h1 h2 hu => ⟨h2.1, (h2.2.more (by omega)).before hu⟩
  have hbn : S.b.n ≤ 4611686018427387904 := by omega
  by_cases k1 : o.kind = 1
  · exact (plays_acts hw hsh hL (.inl k1) (fun i hi hi' W hW hu => (acts_create hW hi hi' hsh k1).mono (fun e w' h => h.made))).mono (fun e w' h => hm w _ (by decide) h.went (Upd.refl _ _))
  by_cases k2 : o.kind = 2
  · exact (plays_acts hw hsh hL (.inr (.inl k2)) (fun i hi hi' W hW hu => (acts_append hW hi hi' (ho.ok.opAt hW) k2 hbn).mono (fun e w' h => h.made))).mono (fun e w' h => hm w _ (by decide) h.went (Upd.refl _ _))
  by_cases k3 : o.kind = 3
  · exact (plays_acts hw hsh hL (.inr (.inr (.inl k3))) (fun i hi hi' W hW hu => (acts_sync hW hi hi' hsh k3).mono (fun e w' h => h.made))).mono (fun e w' h => hm w _ (by decide) h.went (Upd.refl _ _))
  by_cases k4 : o.kind = 4
  · exact (plays_acts hw hsh hL (.inr (.inr (.inr (.inl k4)))) (fun i hi hi' W hW hu => (acts_rename hW hi hi' hsh k4).mono (fun e w' h => h.made))).mono (fun e w' h => hm w _ (by decide) h.went (Upd.refl _ _))
  by_cases k5 : o.kind = 5
  · exact (plays_acts hw hsh hL (.inr (.inr (.inr (.inr k5)))) (fun i hi hi' W hW hu => (acts_delete hW hi hi' hsh k5).mono (fun e w' h => h.made))).mono (fun e w' h => hm w _ (by decide) h.went (Upd.refl _ _))
  by_cases k11 : o.kind = 11
  · exact plays_acts2 hw hsh hL (.inl k11) (fun i hi hi' W hW hu => (acts_arm hW hi hi' hsh k11 ho.ok.nMost).mono (fun e w' h => hm W _ (by decide) h.went hu))
  by_cases k13 : o.kind = 13
  · exact plays_acts2 hw hsh hL (.inr (.inl k13)) (fun i hi hi' W hW hu => (acts_crash hW hi hi' hsh k13 ho.ok.cuts ho.ok.cutsLow ho.nil ho.cutsFew).mono (fun e w' h => hm W _ (by decide) h hu))
  by_cases k14 : o.kind = 14
  · exact plays_acts2 hw hsh hL (.inr (.inr k14)) (fun i hi hi' W hW hu => (acts_flip hW hi hi' hsh k14 ho.pos).mono (fun e w' h => hm W _ (by decide) h hu))
  by_cases k17 : o.kind = 17
  · refine (plays_makes hw hsh hL (.inl k17) (fun i W hW hu => ?_)).mono (fun e w' h => hm w _ (by decide) h.went (Upd.refl _ _))
    by_cases h5 : 5 ≤ S.ds.length
    · refine (makes_full i hW hsh h5).mono ?_
      rintro e w' ⟨g1, S', g2, g3, g4, g5, g6⟩
      exact ⟨g1, S', g2, g3, g4, by omega, g6⟩
    · refine (makes_new i hW hsh (by omega) k17).mono ?_
      rintro e w' ⟨g1, S', g2, g3, g4, g5, g6⟩
      exact ⟨g1, S', g2, g3, g4, by omega, g6⟩
  by_cases k18 : o.kind = 18
  · refine plays_makes2 hw hsh hL (.inl k18) (fun i hi W hW hu => ?_)
    by_cases h5 : 5 ≤ S.ds.length
    · exact (makes_full i hW hsh h5).mono (fun e w' h => hm W _ (by decide) h.went hu)
    · refine (makes_load i hW hsh (by omega) k18 ho.ok.files ho.ok.filesFew ho.filesN (by omega)).mono (fun e w' h => ?_)
      have h2 := h.went
      exact ⟨h2.1, (h2.2.more (by omega)).before hu⟩
  by_cases k19 : o.kind = 19
  · refine plays_makes2 hw hsh hL (.inr k19) (fun i hi W hW hu => ?_)
    by_cases h5 : 5 ≤ S.ds.length
    · exact (makes_full i hW hsh h5).mono (fun e w' h => hm W _ (by decide) h.went hu)
    · exact (makes_twin hW hi hsh (by omega) k19 (by omega)).mono (fun e w' h => hm W _ (by decide) h hu)
  refine plays_tells2 hw hsh hL ⟨k17, k18, k19, k1, k2, k3, k4, k5, k11, k13, k14⟩ (fun i hi hi' W hW hu => ?_)
  by_cases k6 : o.kind = 6
  · exact (tells_read hW hi hi' hsh k6 hbn).mono (fun e w' h => hm W _ (by decide) h.went hu)
  by_cases k7 : o.kind = 7
  · exact (tells_size hW hi hi' hsh k7).mono (fun e w' h => hm W _ (by decide) h.noCalm.went hu)
  by_cases k8 : o.kind = 8
  · exact (tells_list hW hi hi' hsh k8).mono (fun e w' h => hm W _ (by decide) h.noCalm.went hu)
  by_cases k9 : o.kind = 9
  · exact (tells_free hW hi hi' hsh k9).mono (fun e w' h => hm W _ (by decide) h.noCalm.went hu)
  by_cases k10 : o.kind = 10
  · exact (tells_capacity hW hi hi' hsh k10).mono (fun e w' h => hm W _ (by decide) h.noCalm.went hu)
  by_cases k12 : o.kind = 12
  · exact (tells_down hW hi hi' hsh k12).mono (fun e w' h => hm W _ (by decide) h.noCalm.went hu)
  by_cases k15 : o.kind = 15
  · exact (tells_files hW hi hi' hsh k15 (by omega)).mono (fun e w' h => hm W _ (by decide) h hu)
  by_cases k16 : o.kind = 16
  · exact (tells_counts hW hi hi' hsh k16).mono (fun e w' h => hm W _ (by decide) h hu)
  exact (tells_other _ _ hW hsh k6 k7 k8 k9 k10 k12 k15 k16).mono (fun e w' h => hm W _ (by decide) h.noCalm.went hu)

end Go.Proofs.YtohpgmeflmppaaaGreat
