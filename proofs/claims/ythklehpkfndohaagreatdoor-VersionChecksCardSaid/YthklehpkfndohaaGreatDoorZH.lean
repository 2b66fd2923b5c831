/-
  stratalaw10.kept: what was laid is as it was; then it is written over.
-/
import Derived.Test.YthklehpkfndohaaGreatDoorZG
namespace Go.Proofs.YthklehpkfndohaaGreatDoor
set_option linter.unusedVariables false
set_option linter.unusedSimpArgs false
set_option linter.unnecessarySimpa false
set_option linter.unusedSectionVars false
open Go Go.RowKit

theorem cells_len8 : ∀ L : List MV, (L.flatMap MV.cells).length = L.length * 8
  | [] => rfl
  | y :: L => by rw [List.flatMap_cons, List.length_append, cells_len8 L, List.length_cons]; simp only [MV.cells, List.length_cons, List.length_nil]; omega

/-- The version that lies there. -/
theorem LaidAt.at {w W : World} {v wv : Value} {x : VerA} {sv : Value} {gr cr : Nat} {L : List MV} {WL : List WB} (h : LaidAt w W v wv x sv gr cr L WL) : VerAt W v x := by
  have hl : L.length = x.runs.length := by rw [← h.map, List.length_map]
  have hro : RunsOwn W w.heap.size (.slice (some ⟨gr, 0, none⟩) L.length cr) L := by
    refine ⟨?_, fun y hy => h.runs.data y (List.mem_append_left _ hy)⟩
    obtain ⟨hl2, hr⟩ := h.runs.row
    refine ⟨cells_len8 L, ?_⟩
    rcases hr with ⟨e, h0⟩ | ⟨g, cap, cur, e, hb, hg, h2, h3, h4, h5⟩
    · cases e
    · injection e with e1 e2 e3
      injection e1 with e1
      injection e1 with e1
      subst e1; subst e3
      refine .inr ⟨gr, cr, cur, rfl, hb, hg, by simp at h2; omega, h3, h4, ?_⟩
      have h6 := congrArg (List.take (L.length * 8)) h5
      rw [List.take_take, List.flatMap_append, Nat.min_eq_left (by rw [List.length_append, List.length_singleton]; omega), List.take_left' (cells_len8 L)] at h6
      exact h6
  have h1 := verOf (a1 := x.gen) (a2 := x.flushed) (a3 := x.next) (a4 := x.low) (a5 := x.clock) h.st hro
  rw [h.map, hl] at h1
  rw [h.eq]
  exact h1

theorem row_at {W : World} {base g n c : Nat} {t : TypeId} {l : List Value} (h : W.ownsRow base t 1 (.slice (some ⟨g, 0, none⟩) n c) n l) {k : Nat} (hk : k < l.length) : W.cell? ⟨g, k, none⟩ = some l[k] := by
  obtain ⟨hl, hr⟩ := h
  rcases hr with ⟨e, -⟩ | ⟨g', cap, cur, e, hb, hg, h2, h3, h4, h5⟩
  · cases e
  · injection e with e1 e2 e3
    injection e1 with e1
    injection e1 with e1
    subst e1
    rw [cell_of_row W g k _ _ _ hg, ← Array.getElem?_toList]
    have h6 : (cur.toList.take (n * 1))[k]? = l[k]? := by rw [h5]
    rw [List.getElem?_take, if_pos (by omega)] at h6
    rw [h6, List.getElem?_eq_getElem hk]

def ArrIn (WL : List WB) (k : Nat) : Prop := ∃ y ∈ WL, y.g = k

/-- Eight cells are written. -/
theorem store8 {W : World} {g o : Nat} {cur : Array Value} (h : W.heap[g]? = some (.cells cur 60 (0, 0))) (v0 v1 v2 v3 v4 v5 v6 v7 : Value) :
    Upd (fun k => k = g) W ((((((((W.setCell ⟨g, o, none⟩ v0).setCell ⟨g, o + 1, none⟩ v1).setCell ⟨g, o + 2, none⟩ v2).setCell ⟨g, o + 3, none⟩ v3).setCell ⟨g, o + 4, none⟩ v4).setCell ⟨g, o + 5, none⟩ v5).setCell ⟨g, o + 6, none⟩ v6).setCell ⟨g, o + 7, none⟩ v7) ∧
    ∃ cur', ((((((((W.setCell ⟨g, o, none⟩ v0).setCell ⟨g, o + 1, none⟩ v1).setCell ⟨g, o + 2, none⟩ v2).setCell ⟨g, o + 3, none⟩ v3).setCell ⟨g, o + 4, none⟩ v4).setCell ⟨g, o + 5, none⟩ v5).setCell ⟨g, o + 6, none⟩ v6).setCell ⟨g, o + 7, none⟩ v7).heap[g]? = some (.cells cur' 60 (0, 0)) ∧ cur'.size = cur.size := by
  have p : ∀ j : Nat, (⟨g, j, none⟩ : Addr).block < W.heap.size → (⟨g, j, none⟩ : Addr).block = g := fun _ _ => rfl
  refine ⟨((((((((Upd.refl (fun k => k = g) W).setCell (p _) v0).setCell (p _) v1).setCell (p _) v2).setCell (p _) v3).setCell (p _) v4).setCell (p _) v5).setCell (p _) v6).setCell (p _) v7, ?_⟩
  have h1 := heap_setCell_at _ g o _ _ v0 h
  have h2 := heap_setCell_at _ g (o + 1) _ _ v1 h1
  have h3 := heap_setCell_at _ g (o + 2) _ _ v2 h2
  have h4 := heap_setCell_at _ g (o + 3) _ _ v3 h3
  have h5 := heap_setCell_at _ g (o + 4) _ _ v4 h4
  have h6 := heap_setCell_at _ g (o + 5) _ _ v5 h5
  have h7 := heap_setCell_at _ g (o + 6) _ _ v6 h6
  have h8 := heap_setCell_at _ g (o + 7) _ _ v7 h7
  exact ⟨_, h8, by simp⟩

set_option maxRecDepth 100000 in
set_option maxHeartbeats 6400000 in
theorem kept_any {w W : World} {v wv wasV : Value} {x : VerA} {sv : Value} {gr cr : Nat} {L : List MV} {WL : List WB} (h : LaidAt w W v wv x sv gr cr L WL) (hwas : VerAt W wasV x) (hin : VerIn x) :
    Calls Tryz.prog 18 #[v, wv, wasV] W fun e W' => e = .returned (.bool true) ∧ Upd (fun k => k = gr ∨ ArrIn WL k) W W' := by
  have HLA := hid h; have HAT := hid h.at; have HWAS := hid hwas
  have hv := h.eq
  obtain ⟨s1, d1, es, -⟩ := h.st.bat
  subst es
  obtain ⟨q1, e1, q2, e2, rfl, -, -⟩ := hwas
  subst hv
  obtain ⟨wa, wc, ew⟩ := h.arr.shape
  obtain ⟨m1, hm1⟩ : ∃ m, m = x.state.length := ⟨_, rfl⟩
  obtain ⟨n, hn⟩ : ∃ m, m = x.runs.length := ⟨_, rfl⟩
  rw [← hm1, ← hn] at HAT HWAS ⊢
  have HN := hid hn; have HM1 := hid hm1
  have hnb : n * 96 ≤ 140737488351232 := by rw [hn]; exact hin.2.2.2.2.2.2.1
  obtain ⟨LW, hLW⟩ : ∃ l, l = WL.length := ⟨_, rfl⟩
  rw [← hLW] at ew
  have HLW := hid hLW
  subst ew
  have hlt : ∀ k, (k = gr ∨ ArrIn WL k) → k < W.heap.size := by
    rintro k (rfl | ⟨y, hy, rfl⟩)
    · exact h.runs.row.lt _ rfl |>.2
    · exact (h.arr.data y hy).lt _ rfl
  have HLT := hid hlt
  have hnw : ∀ k, (Value.slice wa LW wc).ownBlock = some k → ¬ (k = gr ∨ ArrIn WL k) := by
    intro k hk
    obtain ⟨cur, hc, -⟩ := h.arr.ty k hk
    rintro (rfl | ⟨y, hy, rfl⟩)
    · obtain ⟨-, hr⟩ := h.runs.row
      rcases hr with ⟨e, -⟩ | ⟨g, cap, cur2, e, hb, hg, -⟩
      · cases e
      · injection e with e1
        injection e1 with e1
        injection e1 with e1
        subst e1
        exact not_ty hc (by decide) _ _ hg
    · rcases h.arr.data y hy with ⟨e, -⟩ | ⟨g, cap, cur2, e, hg, -⟩
      · cases e
      · unfold WB.full at e
        injection e with e1
        injection e1 with e1
        injection e1 with e1
        rw [e1] at hc
        exact not_ty hc (by decide) _ _ hg
  have HNW := hid hnw
  have hgw : ¬ ArrIn WL gr := by
    rintro ⟨y, hy, e⟩
    obtain ⟨-, hr⟩ := h.runs.row
    rcases hr with ⟨e, -⟩ | ⟨g, cap, cur2, e0, hb, hg, -⟩
    · cases e
    · injection e0 with e1
      injection e1 with e1
      injection e1 with e1
      subst e1
      rcases h.arr.data y hy with ⟨e, -⟩ | ⟨g, cap, cur2, e2, hg2, -⟩
      · cases e
      · unfold WB.full at e2
        injection e2 with e3
        injection e3 with e3
        injection e3 with e3
        rw [← e3, e] at hg2
        exact not_ty hg (by decide) _ _ hg2
  have HGW := hid hgw
  have hmark : W.cell? ⟨gr, n * 8, none⟩ = some (.int .i64 (-77)) ∧ n + 1 ≤ cr ∧ cr ≤ 9223372036854775807 := by
    have hl : L.length = n := by rw [hn, ← h.map, List.length_map]
    obtain ⟨hl2, hr⟩ := h.runs.row
    rcases hr with ⟨e, -⟩ | ⟨g, cap, cur, e, hb, hg, h2, h3, h4, h5⟩
    · cases e
    · injection e with e1 e2 e3
      injection e1 with e1
      injection e1 with e1
      subst e1; subst e3
      refine ⟨?_, by simp at h2; omega, by simpa [maxLen] using h3⟩
      rw [cell_of_row W gr _ _ _ _ hg, ← Array.getElem?_toList]
      have h6 : (cur.toList.take ((L ++ [markV]).length * 8))[n * 8]? = ((L ++ [markV]).flatMap MV.cells)[n * 8]? := by rw [h5]
      rw [List.getElem?_take, if_pos (by rw [List.length_append, List.length_singleton]; omega)] at h6
      rw [h6, List.flatMap_append, List.getElem?_append_right (by rw [cells_len8]; omega), cells_len8, hl, Nat.sub_self]
      rfl
  have hrg : ∃ cur, W.heap[gr]? = some (.cells cur 60 (0, 0)) ∧ cur.size = cr * 8 := by
    obtain ⟨-, hr⟩ := h.runs.row
    rcases hr with ⟨e, -⟩ | ⟨g, cap, cur, e, hb, hg, h2, h3, h4, h5⟩
    · cases e
    · injection e with e1 e2 e3
      injection e1 with e1
      injection e1 with e1
      subst e1; subst e3
      exact ⟨cur, hg, h4⟩
  have HMK := hid hmark; have HRG := hid hrg
  have HOWN := hid (show (WL.map WB.g).Nodup from by rw [h.link]; exact h.own.1)
  have HARR := hid h.arr
  clear hlt hnw hgw hmark hrg h hm1 hn hLW hin
  have hu2 := ((Upd.refl (fun _ => False) W).alloc (.cells #[.int .i64 x.gen, .int .i64 x.flushed, .int .i64 x.next, .int .i64 x.low, .int .i64 x.clock, .slice s1 m1 d1, .slice (some ⟨gr, 0, none⟩) n cr] 27)).alloc (.cells #[.int .i64 x.gen, .int .i64 x.flushed, .int .i64 x.next, .int .i64 x.low, .int .i64 x.clock, .slice q1 m1 e1, .slice q2 n e2] 27)
  have hra := heap_alloc_new W (.cells #[.int .i64 x.gen, .int .i64 x.flushed, .int .i64 x.next, .int .i64 x.low, .int .i64 x.clock, .slice s1 m1 d1, .slice (some ⟨gr, 0, none⟩) n cr] 27)
  have hra2 : ((W.alloc (.cells #[.int .i64 x.gen, .int .i64 x.flushed, .int .i64 x.next, .int .i64 x.low, .int .i64 x.clock, .slice s1 m1 d1, .slice (some ⟨gr, 0, none⟩) n cr] 27)).alloc (.cells #[.int .i64 x.gen, .int .i64 x.flushed, .int .i64 x.next, .int .i64 x.low, .int .i64 x.clock, .slice q1 m1 e1, .slice q2 n e2] 27)).heap[W.heap.size]? = some (.cells #[.int .i64 x.gen, .int .i64 x.flushed, .int .i64 x.next, .int .i64 x.low, .int .i64 x.clock, .slice s1 m1 d1, .slice (some ⟨gr, 0, none⟩) n cr] 27 (0, 0)) := by rw [heap_alloc_past _ _ _ (by simp)]; exact hra
  have hrb := heap_alloc_new (W.alloc (.cells #[.int .i64 x.gen, .int .i64 x.flushed, .int .i64 x.next, .int .i64 x.low, .int .i64 x.clock, .slice s1 m1 d1, .slice (some ⟨gr, 0, none⟩) n cr] 27)) (.cells #[.int .i64 x.gen, .int .i64 x.flushed, .int .i64 x.next, .int .i64 x.low, .int .i64 x.clock, .slice q1 m1 e1, .slice q2 n e2] 27)
  rw [World.size_alloc] at hrb
  go_enter Tryz.func18, Tryz.ntmps18
  go_upto_region 1 with fail
  obtain ⟨p3, hp3⟩ : ∃ p, p = W.heap.size := ⟨_, rfl⟩
  obtain ⟨p5, hp5⟩ : ∃ p, p = W.heap.size + 1 := ⟨_, rfl⟩
  rw [← hp3] at hra2
  rw [← hp5] at hrb
  rw [← hp5, ← hp3]
  have HU2 := hid hu2; have HRA := hid hra2; have HRB := hid hrb
  have HP3 := hid (show W.heap.size ≤ p3 from by omega)
  generalize (W.alloc (.cells #[.int .i64 x.gen, .int .i64 x.flushed, .int .i64 x.next, .int .i64 x.low, .int .i64 x.clock, .slice s1 m1 d1, .slice (some ⟨gr, 0, none⟩) n cr] 27)).alloc (.cells #[.int .i64 x.gen, .int .i64 x.flushed, .int .i64 x.next, .int .i64 x.low, .int .i64 x.clock, .slice q1 m1 e1, .slice q2 n e2] 27) = W2 at HU2 HRA HRB ⊢
  clear hu2 hra hra2 hrb hp3 hp5
  obtain ⟨⟨z0, z1, z2, z3, z4, z5, z6⟩, -, hzl⟩ := verCells HRA.out
  obtain ⟨⟨y0, y1, y2, y3, y4, y5, y6⟩, -, hyl⟩ := verCells HRB.out
  have HSM := hid (sameVer_any (x := x) (y := x) (by have h := HAT.out.keep HU2.out; rw [HM1.out, HN.out] at h; exact h) (by have h := HWAS.out.keep HU2.out; rw [HM1.out, HN.out] at h; exact h) (by have := HN.out; omega))
  rw [show sameVerB x x = true from sameVerB_iff.2 rfl, ← HM1.out, ← HN.out] at HSM
  go_wp2_with fail
  refine HSM.out.mono ?_
  rintro e W3 ⟨rfl, hu3⟩
  have HU3 := hid (HU2.out.trans hu3 (fun _ _ e => e))
  have HR3 := hid (hu3.get HRA.out (fun e => e))
  clear hu3 z0 z1 z2 z3 z4 z5 z6 hzl y0 y1 y2 y3 y4 y5 y6 hyl HSM HRB
  obtain ⟨⟨z0, z1, z2, z3, z4, z5, z6⟩, -, hzl⟩ := verCells HR3.out
  clear z0 z1 z2 z3 z4 z5
  have hmk : W3.cell? ⟨gr, n * 8, none⟩ = some (.int .i64 (-77)) := HU3.out.cell (HLT.out gr (.inl rfl)) HMK.out.1
  have hgl : gr < W3.heap.size := Nat.lt_of_lt_of_le (HLT.out gr (.inl rfl)) HU3.out.size
  have hcr : (n : Int) + 1 ≤ (cr : Int) := by have := HMK.out.2.1; omega
  have hcrm : (cr : Int) ≤ 9223372036854775807 := by have := HMK.out.2.2; omega
  have hc0 : ¬ cr = 0 := by omega
  go_upto_region 3 with fail
  clear hmk hgl hcr hcrm hc0 hzl z6
  go_wp2
  go_loopw [8, 9, 10, 11] (fun okv iv kv jv wr => okv = .bool true ∧ ∃ i : Nat, iv = .int .i64 i ∧ i ≤ LW ∧ Upd (fun k => ∃ y ∈ WL.take i, y.g = k) W3 wr) (fun _ iv _ _ _ => LW - (intOf iv).toNat)
  case atStart => exact ⟨rfl, 0, rfl, by omega, Upd.refl _ _⟩
  case round =>
    obtain ⟨rfl, i, rfl, hi, hu⟩ := hrel
    have HU := hid hu
    obtain ⟨wo, rfl⟩ : ∃ wo, wo = wr := ⟨_, rfl⟩
    clear hu
    by_cases hlt : i < LW
    · have hiw : i < WL.length := by have := HLW.out; omega
      obtain ⟨y, hy⟩ : ∃ y, y = WL[i] := ⟨_, rfl⟩
      have hym : y ∈ WL := by rw [hy]; exact List.getElem_mem hiw
      obtain ⟨gw, rfl, hcell, hwc, hgwl, hwcm⟩ : ∃ g, wa = some ⟨g, 0, none⟩ ∧ W.cell? ⟨g, i, none⟩ = some y.full ∧ LW ≤ wc ∧ g < W.heap.size ∧ (wc : Int) ≤ 9223372036854775807 := by
        have hrow := HARR.out.row
        obtain ⟨-, hr⟩ := HARR.out.row
        rcases hr with ⟨e, h0⟩ | ⟨g, cap, cur, e, hb, hg, h2, h3, h4, h5⟩
        · exfalso; omega
        · injection e with e1 e2 e3
          subst e1
          refine ⟨g, rfl, ?_, by rw [e3]; have := HLW.out; (try simp at h2); omega, lt_of_heap hg, by rw [e3]; simp [maxLen] at h3; omega⟩
          rw [e2] at hrow
          have h := row_at hrow (k := i) (by rw [List.length_map]; exact hiw)
          rw [List.getElem_map] at h
          rw [hy]; exact h
      have hdat : DataIs W y.full (y.b ++ tailB) := HARR.out.data y hym
      have hgyl := HLT.out y.g (.inr ⟨y, hym, rfl⟩)
      have hgne : gw ≠ y.g := fun e => HNW.out gw rfl (.inr ⟨y, hym, e.symm⟩)
      have hfr : ¬ ∃ z ∈ WL.take i, z.g = y.g := by
        rintro ⟨z, hz, e⟩
        have h := HOWN.out
        rw [← List.take_append_drop i WL, List.drop_eq_getElem_cons hiw, List.map_append, List.map_cons] at h
        exact (List.pairwise_append.1 h).2.2 z.g (List.mem_map.2 ⟨z, hz, rfl⟩) y.g (by rw [hy]; exact List.mem_cons_self) e
      have htk : ∀ z, z ∈ WL.take (i + 1) ↔ (z ∈ WL.take i ∨ z = y) := by
        intro z
        rw [List.take_succ_eq_append_getElem hiw, List.mem_append, List.mem_singleton, hy]
      have HTK := hid htk
      obtain ⟨gy, hgy⟩ : ∃ g, g = y.g := ⟨_, rfl⟩
      obtain ⟨cy, hcy⟩ : ∃ g, g = y.c := ⟨_, rfl⟩
      obtain ⟨bb, hbb⟩ : ∃ g, g = y.b := ⟨_, rfl⟩
      obtain ⟨lb, hlb⟩ : ∃ l, l = bb.length := ⟨_, rfl⟩
      unfold WB.full at hcell hdat
      rw [← hgy, ← hcy, ← hbb, ← hlb] at hcell hdat
      rw [← hgy] at hgyl hgne hfr
      have HUW := hid ((HU3.out.mono (fun _ _ e => e.elim)).trans HU.out (fun _ _ e => e))
      have hD : DataIs wo (.slice (some ⟨gy, 0, none⟩) (lb + 5) cy) (bb ++ tailB) := hdat.upd HUW.out (fun k e e2 => by simp only [Value.ownBlock, Option.some.injEq] at e; subst e; exact hfr e2)
      have hgwS : ¬ ∃ z ∈ WL.take i, z.g = gw := by
        rintro ⟨z, hz, e⟩
        exact HNW.out gw rfl (.inr ⟨z, List.mem_of_mem_take hz, e⟩)
      have hcw : wo.cell? ⟨gw, i, none⟩ = some (.slice (some ⟨gy, 0, none⟩) (lb + 5) cy) := by
        rw [World.cell?_of_block (HUW.out.block gw hgwl hgwS)]; exact hcell
      obtain ⟨hcy5, hcym⟩ : lb + 5 ≤ cy ∧ cy ≤ 9223372036854775807 := by
        rcases hdat with ⟨e, -⟩ | ⟨g, c, cur, e, -, h1, -, h3, -⟩
        · cases e
        · injection e with e1 e2 e3
          subst e3
          refine ⟨by rw [hlb]; simp at h1; omega, by simpa [maxLen] using h3⟩
      have hgwo : gw < wo.heap.size := Nat.lt_of_lt_of_le hgwl HUW.out.size
      have hgyo : gy < wo.heap.size := Nat.lt_of_lt_of_le hgyl HUW.out.size
      have HB0 := hid (show ∃ cur, wo.heap[gy]? = some (.cells cur 5 (0, 0)) ∧ cy ≤ cur.size from by
        rcases hD with ⟨e, -⟩ | ⟨g, c, cur, e, hg, -, h2, -⟩
        · cases e
        · injection e with e1 e2 e3
          injection e1 with e1
          injection e1 with e1
          subst e1; subst e3
          exact ⟨cur, hg, h2⟩)
      have HD := hid hD; have HCW := hid hcw; have HLB := hid hlb; have HGNE := hid hgne; have HGY := hid hgy; have HFR := hid hfr; have HGYO := hid hgyo; have HGWO := hid hgwo
      have hiwc : (i : Int) < (wc : Int) := by omega
      have hbat : BAt (wo.alloc (.cells #[.int .u8 201, .int .u8 202, .int .u8 203, .int .u8 204, .int .u8 205] 5)) (.slice (some ⟨gy, lb, none⟩) 5 (cy - lb)) tailB := by
        have h := hD.bat
        rw [show lb + 5 = (bb ++ tailB).length from by rw [hlb]; simp] at h
        have h2 := h.sub (lo := lb) (n := 5) (by rw [hlb]; simp)
        rw [Nat.zero_add, hlb, List.drop_left, ← hlb] at h2
        exact h2.keep ((Upd.refl (fun _ => False) wo).alloc _)
      have hr7 := heap_alloc_new wo (.cells #[.int .u8 201, .int .u8 202, .int .u8 203, .int .u8 204, .int .u8 205] 5)
      have htl : BAt (wo.alloc (.cells #[.int .u8 201, .int .u8 202, .int .u8 203, .int .u8 204, .int .u8 205] 5)) (.slice (some ⟨wo.heap.size, 0, none⟩) 5 5) tailB := DataIs.bat (.inr ⟨_, 5, _, rfl, hr7, by simp, by simp, by unfold maxLen; omega, rfl⟩)
      have HLS := hid (lawSame_any hbat htl)
      rw [decide_eq_true rfl] at HLS
      have HU7 := hid ((Upd.refl (fun _ => False) wo).alloc (.cells #[.int .u8 201, .int .u8 202, .int .u8 203, .int .u8 204, .int .u8 205] 5))
      have hcy5i : (lb : Int) + 5 ≤ (cy : Int) := by omega
      have hcymi : (cy : Int) ≤ 9223372036854775807 := by omega
      have hc0 : ¬ cy = 0 := by omega
      clear hbat htl hr7 hD hfr hgne hgyl hgwl hgwS hdat hcell htk hgy hcy hbb hlb hym hy
      go_wp2_with fail
      refine HLS.out.mono ?_
      rintro e W7' ⟨rfl, hww⟩
      obtain rfl := hww.symm
      generalize wo.alloc (.cells #[.int .u8 201, .int .u8 202, .int .u8 203, .int .u8 204, .int .u8 205] 5) = W7 at HU7 ⊢
      clear HLS
      go_wp2
      go_loopw [11] (fun jv ws => ∃ j : Nat, jv = .int .i64 j ∧ j ≤ lb + 5 ∧ Upd (fun k => k = gy) W7 ws ∧ ∃ cur, ws.heap[gy]? = some (.cells cur 5 (0, 0)) ∧ cy ≤ cur.size) (fun jv _ => lb + 5 - (intOf jv).toNat)
      case atStart =>
        obtain ⟨cur, h1, h2⟩ := HB0.out
        exact ⟨0, rfl, by omega, Upd.refl _ _, cur, HU7.out.get h1 (fun e => e), h2⟩
      case round =>
        obtain ⟨j, rfl, hj, hu, cur, hcur, hcs2⟩ := hrel
        obtain ⟨ws, rfl⟩ : ∃ ws, ws = wr := ⟨_, rfl⟩
        have HV := hid hu
        clear hu
        have hcs : ws.cell? ⟨gw, i, none⟩ = some (.slice (some ⟨gy, 0, none⟩) (lb + 5) cy) := by
          rw [World.cell?_of_block (HV.out.block gw (Nat.lt_of_lt_of_le HGWO.out HU7.out.size) HGNE.out)]
          exact HU7.out.cell HGWO.out HCW.out
        have hgs : gy < ws.heap.size := Nat.lt_of_lt_of_le HGYO.out (Nat.le_trans HU7.out.size HV.out.size)
        have hgws : gw < ws.heap.size := Nat.lt_of_lt_of_le HGWO.out (Nat.le_trans HU7.out.size HV.out.size)
        by_cases hjl : j < lb + 5
        · have hcell := cell_of_row ws gy j _ _ _ hcur
          rw [Array.getElem?_eq_getElem (by omega)] at hcell
          have hfz := frozen_of_row ws gy j _ _ hcur
          have HCUR := hid hcur
          clear hcur
          have hjc : (j : Int) < (lb : Int) + 5 := by omega
          have hjcy : (j : Int) < (cy : Int) := by omega
          go_wp2
          go_roundw
          case rel => exact ⟨j + 1, by simp, by omega, HV.out.trans (Upd.cell_only _ _ _ _) (fun k _ e => e), _, heap_setCell_at _ gy j _ _ _ HCUR.out, by simpa using hcs2⟩
          case measure => simp [intOf]; omega
        · obtain rfl : j = lb + 5 := by omega
          go_wp2
          go_roundw
          case rel => exact ⟨rfl, i + 1, by simp, by omega, ((HU.out.mono (fun k _ ⟨z, hz, e⟩ => ⟨z, (HTK.out z).2 (.inl hz), e⟩)).trans HU7.out (fun _ _ e => e.elim)).trans HV.out (fun k _ e => ⟨y, (HTK.out y).2 (.inr rfl), by rw [e, HGY.out]⟩)⟩
          case measure => simp [intOf]; omega
    · obtain rfl : i = LW := by omega
      have HUA := hid (show Upd (ArrIn WL) W3 wo from HU.out.mono (fun k _ ⟨z, hz, e⟩ => ⟨z, List.mem_of_mem_take hz, e⟩))
      have HRP := hid (HUA.out.get HR3.out (fun ⟨z, hz, e⟩ => by have := HP3.out; have := HLT.out z.g (.inr ⟨z, hz, rfl⟩); omega))
      have HRG2 := hid (show ∃ cur, wo.heap[gr]? = some (.cells cur 60 (0, 0)) ∧ cur.size = cr * 8 from by
        obtain ⟨cur, h1, h2⟩ := HRG.out
        exact ⟨cur, HUA.out.get (HU3.out.get h1 (fun e => e)) HGW.out, h2⟩)
      have HPR := hid (show p3 ≠ gr from fun e => by have := HLT.out gr (.inl rfl); have := HP3.out; omega)
      clear HU
      go_wp2
      go_loopw [12] (fun jv ws => ∃ j : Nat, jv = .int .i64 j ∧ j ≤ n ∧ Upd (fun k => k = gr) wo ws ∧ ∃ cur, ws.heap[gr]? = some (.cells cur 60 (0, 0)) ∧ cur.size = cr * 8) (fun jv _ => n - (intOf jv).toNat)
      case atStart =>
        obtain ⟨cur, h1, h2⟩ := HRG2.out
        exact ⟨0, rfl, by omega, Upd.refl _ _, cur, h1, h2⟩
      case round =>
        obtain ⟨j, rfl, hj, hu, cur, hcur, hcs2⟩ := hrel
        obtain ⟨ws, rfl⟩ : ∃ ws, ws = wr := ⟨_, rfl⟩
        have HV := hid hu
        clear hu
        have HR := hid (HV.out.get HRP.out HPR.out)
        obtain ⟨⟨z0, z1, z2, z3, z4, z5, z6⟩, -, hzl⟩ := verCells HR.out
        clear z0 z1 z2 z3 z4 z5
        by_cases hjl : j < n
        · have hmk := HMK.out
          have hcell : ∀ d, d < 8 → ∃ u, ws.cell? ⟨gr, j * 8 + d, none⟩ = some u := by
            intro d hd
            have h := cell_of_row ws gr (j * 8 + d) _ _ _ hcur
            rw [Array.getElem?_eq_getElem (by omega)] at h
            exact ⟨_, h⟩
          obtain ⟨u0, c0⟩ := hcell 0 (by omega)
          obtain ⟨u1, c1⟩ := hcell 1 (by omega)
          obtain ⟨u2, c2⟩ := hcell 2 (by omega)
          obtain ⟨u3, c3⟩ := hcell 3 (by omega)
          obtain ⟨u4, c4⟩ := hcell 4 (by omega)
          obtain ⟨u5, c5⟩ := hcell 5 (by omega)
          obtain ⟨u6, c6⟩ := hcell 6 (by omega)
          obtain ⟨u7, c7⟩ := hcell 7 (by omega)
          rw [Nat.add_zero] at c0
          have f0 := frozen_of_row ws gr (j * 8) _ _ hcur
          have f1 := frozen_of_row ws gr (j * 8 + 1) _ _ hcur
          have f2 := frozen_of_row ws gr (j * 8 + 2) _ _ hcur
          have f3 := frozen_of_row ws gr (j * 8 + 3) _ _ hcur
          have f4 := frozen_of_row ws gr (j * 8 + 4) _ _ hcur
          have f5 := frozen_of_row ws gr (j * 8 + 5) _ _ hcur
          have f6 := frozen_of_row ws gr (j * 8 + 6) _ _ hcur
          have f7 := frozen_of_row ws gr (j * 8 + 7) _ _ hcur
          have hgs := lt_of_heap hcur
          have HCUR := hid hcur
          have hjn : (j : Int) < (n : Int) := by omega
          have hjc : (j : Int) < (cr : Int) := by omega
          clear hcur hcell
          go_wp2
          go_roundw
          case rel =>
            obtain ⟨k1, cur', k2, k3⟩ := store8 HCUR.out (o := j * 8) (.int .i64 (-99)) (.int .i64 0) (.int .i64 0) (.int .i64 0) (.int .i64 0) (.int .i64 0) (.slice none 0 0) (.slice none 0 0)
            exact ⟨j + 1, by simp, by omega, HV.out.trans k1 (fun k _ e => e), cur', k2, by rw [k3]; exact hcs2⟩
          case measure => simp [intOf]; omega
        · obtain rfl : j = n := by omega
          go_wp2
          go_ret
          refine ⟨rfl, ?_⟩
          exact (((HU3.out.mono (fun _ _ e => e.elim)).trans HUA.out (fun k _ e => .inr e)).trans HV.out (fun k _ e => .inl e))

end Go.Proofs.YthklehpkfndohaaGreatDoor
