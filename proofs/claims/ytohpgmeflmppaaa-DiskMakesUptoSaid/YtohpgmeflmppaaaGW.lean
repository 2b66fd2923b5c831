/-
  DiskMakes, walked.
-/
import Derived.Test.YtohpgmeflmppaaaGU
import Derived.Test.YtohpgmeflmppaaaGS
namespace Go.Proofs.Ytohpgmeflmppaaa
set_option linter.unusedVariables false
set_option linter.unusedSimpArgs false
set_option linter.unnecessarySimpa false
set_option linter.unusedSectionVars false
open Go Go.RowKit

/-- One more disk by New. -/
def newOp (cap : Int) : OpI := ⟨17, 0, ⟨#[]⟩, ⟨#[]⟩, .slice none 0 0, [], 0, cap, .slice none 0 0, [], .slice none 0 0, []⟩
/-- One more disk by Load. -/
def loadOp (cap : Int) (v : Value) (l : List FileI) : OpI := ⟨18, 0, ⟨#[]⟩, ⟨#[]⟩, .slice none 0 0, [], 0, cap, .slice none 0 0, [], v, l⟩

theorem newOp_shapes (cap : Int) : OpShapes (newOp cap) := ⟨none, 0, none, 0, 0, none, 0, 0, rfl, rfl, rfl⟩

theorem makes_newOp {w0 w : World} {S : WS} (cap i : Int) (hw : WOn w0 w S) :
    Calls Try.prog 42 #[.pointer (some ⟨S.p, 0, none⟩), .agg (newOp cap).cells, .int .i64 i] w fun e w' => ActedM w0 w S 0 e w' := by
  by_cases h5 : 5 ≤ S.ds.length
  · exact makes_full i hw (newOp_shapes cap) h5
  · exact makes_new i hw (newOp_shapes cap) (by omega) rfl

theorem makes_loadOp {w0 w : World} {S : WS} {v : Value} {l : List FileI} (cap i : Int) (hw : WOn w0 w S) (hl : FilesIn w0 v l) (hs : ∀ f ∈ l, f.data.length ≤ 16777216) (hlen : l.length ≤ 10000000) (hn : S.b.n + (l.length : Int) * 268435456 ≤ 4611686018427387904) :
    Calls Try.prog 42 #[.pointer (some ⟨S.p, 0, none⟩), .agg (loadOp cap v l).cells, .int .i64 i] w fun e w' => ActedM w0 w S ((l.length : Int) * 268435456) e w' := by
  have hsh : OpShapes (loadOp cap v l) := by
    obtain ⟨ao, lc, hv, -⟩ := hl.shape
    exact ⟨none, 0, none, 0, 0, ao, l.length, lc, rfl, rfl, hv⟩
  by_cases h5 : 5 ≤ S.ds.length
  · refine (makes_full i hw hsh h5).mono ?_
    rintro e w' ⟨h1, S', h2, h3, h4, h5, h6⟩
    exact ⟨h1, S', h2, h3, h4, by omega, h6⟩
  · exact makes_load i hw hsh (by omega) rfl hl hs hlen hn

set_option maxRecDepth 100000 in
set_option maxHeartbeats 6400000 in
theorem diskMakes_walk {W : World} {cap : Int} {v : Value} {l : List FileI} (hl : FilesIn W v l) (hs : ∀ f ∈ l, f.data.length ≤ 1048576) (hlen : l.length ≤ 1048576) :
    Calls Try.prog 9 #[.int .i64 cap, v] W fun e W' => e = .returned (.bool true) ∧ Below W.heap.size W W' := by
  have HL := hid hl; have HS := hid hs
  obtain ⟨ao, lc, hv, -⟩ := hl.shape
  have HV := hid hv
  rw [hv]
  clear hl hs hv
  go_enter Try.func9, Try.ntmps9
  go_wp2_with fail
  refine (started_any W 9 (by decide)).mono ?_
  rintro e w1 ⟨S, rfl, hon, hpos, hbn, hcm⟩
  have HON := hid hon; have HCM := hid hcm
  have hSp : S.p < w1.heap.size := lt_of_heap hon.mem.top
  obtain ⟨P, hP⟩ : ∃ P, P = S.p := ⟨_, rfl⟩
  rw [← hP] at hSp ⊢
  have HP := hid hP
  clear hon hcm hP
  go_wp2_with fail
  refine (both_any w1).mono ?_
  rintro e w2 ⟨rfl, hu2⟩
  have hm := makes_newOp cap 0 (HON.out.keep hu2)
  rw [← HP.out] at hm
  simp only [newOp, OpI.cells] at hm
  have HM := hid hm
  clear hm hu2
  go_wp2_with fail
  refine HM.out.mono ?_
  rintro e w3 ⟨rfl, S3, h1, h2, h3, h4, h5, h6⟩
  have hm := makes_loadOp cap 0 h1 HL.out (fun f hf => by have := HS.out f hf; omega) (by omega) (by omega)
  rw [h2, ← HP.out, HV.out] at hm
  simp only [loadOp, OpI.cells] at hm
  have HM3 := hid hm; have HC3 := hid (h5 HCM.out); have HP3 := hid (h2.trans HP.out.symm)
  have h3' : 0 < S3.ds.length := by omega
  clear hm h1 h2 h3 h4 h5 h6
  go_wp2_with fail
  refine HM3.out.mono ?_
  rintro e w4 ⟨rfl, S4, h1, h2, h3, h4, h5, h6⟩
  have HC4 := hid (h5 HC3.out); have HP4 := hid (h2.trans HP3.out)
  have hh := holds_any h1.mem.book h1.mem.top
  rw [HP4.out] at hh
  have HH := hid hh; have HON4 := hid h1
  have hP4 : P < w4.heap.size := by rw [← HP4.out]; exact lt_of_heap h1.mem.top
  clear hh h1 h2 h3 h4 h5 h6
  go_wp2_with fail
  refine HH.out.mono ?_
  rintro e w5 ⟨rfl, hu5⟩
  have HON5 := hid (HON4.out.keep hu5)
  have hfew := HON4.out.few
  obtain ⟨n, hn⟩ : ∃ n, n = S4.ds.length := ⟨_, rfl⟩
  have HN := hid hn
  rw [← hn] at hfew
  clear hu5 hn
  go_wp2
  go_loopw [6, 7] (fun ok i wr => ∃ k : Nat, k ≤ n ∧ ok = .bool true ∧ i = .int .i64 k ∧ WOn W wr S4) (fun _ i _ => n - (intOf i).toNat)
  case atStart => exact ⟨0, Nat.zero_le _, rfl, rfl, HON5.out⟩
  case round =>
    obtain ⟨k, hk, rfl, rfl, hon⟩ := hrel
    have hm := hon.mem
    obtain ⟨gd, dc, hdv, -, hd⟩ := owns_shape hm.rowD
    obtain ⟨gr, rc, hrv, -, hr⟩ := owns_shape hm.rowR
    have hdc : S4.ds.length ≤ dc := by
      rcases hm.rowD.2 with ⟨e, hz⟩ | ⟨g, cap, cur, e, -, -, h1, -⟩
      · omega
      · rw [hdv] at e; injection e with _ _ e3; omega
    have hrc : S4.rs.length ≤ rc := by
      rcases hm.rowR.2 with ⟨e, hz⟩ | ⟨g, cap, cur, e, -, -, h1, -⟩
      · omega
      · rw [hrv] at e; injection e with _ _ e3; omega
    have hlen2 := hm.len
    have c0 : wr.cell? ⟨P, 0, none⟩ = some (.slice gd n dc) := by rw [← HP4.out, cell_of_row wr _ 0 _ _ _ hm.top, HN.out, ← hdv]; rfl
    have c1 : wr.cell? ⟨P, 1, none⟩ = some (.slice gr n rc) := by rw [← HP4.out, cell_of_row wr _ 1 _ _ _ hm.top, HN.out, ← hlen2, ← hrv]; rfl
    have hPr : P < wr.heap.size := World.block_lt_of_cell? _ _ c0
    have HWR := hid hon
    by_cases hlt : k < n
    · have hi : k < S4.ds.length := by have := HN.out; omega
      have hi' : k < S4.rs.length := by omega
      obtain ⟨gdd, rfl, -, hgd, hd2⟩ := hd k hi
      obtain ⟨grr, rfl, -, hgr, hr2⟩ := hr k hi'
      have d0 : wr.cell? ⟨gdd, k, none⟩ = some (.pointer (some ⟨S4.ds[k].p, 0, none⟩)) := by rw [hd2 k (by simpa using hi)]; simp [ptrD]
      have d1 : wr.cell? ⟨grr, k, none⟩ = some (.pointer (some ⟨S4.rs[k].p, 0, none⟩)) := by rw [hr2 k (by simpa using hi')]; simp [ptrR]
      obtain ⟨hal, hso⟩ := hon.pair k hi hi'
      have hcr : S4.ds[k].cap = S4.rs[k].room := hal.cap
      have hus : S4.ds[k].used = usedR S4.rs[k].F := by rw [used_abs, sum_perm hal.files]; exact usedR_abs _
      have hsf : S4.rs[k].F.map FV.abs = fileList S4.ds[k] := sorted_fileList (hm.dsIn k hi) hal hso
      have hrm := (hm.dsIn k hi).room
      have hdn := HC4.out k hi
      have HF1 := hid (show ∀ V, Upd (fun _ => False) wr V → Calls Try.prog 16 #[.pointer (some ⟨S4.ds[k].p, 0, none⟩)] V fun e V' => ∃ v l, e = .returned v ∧ FilesAt V' V.heap.size v l ∧ l.map FV.abs = fileList S4.ds[k] ∧ Upd (fun _ => False) V V' from fun V hV => files_any ((hon.keep hV).mem.dsIn k hi))
      have HF2 := hid (show ∀ V, Upd (fun _ => False) wr V → Calls Try.prog 39 #[.pointer (some ⟨S4.rs[k].p, 0, none⟩)] V fun e V' => ∃ v l, e = .returned v ∧ FilesAt V' V.heap.size v l ∧ l.map FV.abs = fileList S4.ds[k] ∧ Upd (fun _ => False) V V' from fun V hV => by rw [← hsf]; exact refFiles_any ((hon.keep hV).mem.rsIn k hi'))
      have HF3 := hid (show ∀ V, Upd (fun _ => False) wr V → Calls Try.prog 25 #[.pointer (some ⟨S4.ds[k].p, 0, none⟩)] V fun e V' => e = .returned (.int .i64 ((S4.rs[k].room - usedR S4.rs[k].F : Nat) : Int)) ∧ Upd (fun _ => False) V V' from fun V hV => by
        refine (free_any ((hon.keep hV).mem.dsIn k hi)).mono ?_
        rintro e V' ⟨rfl, q, rfl⟩
        exact ⟨by rw [← hcr, ← hus], (Upd.refl _ _).drewN q⟩)
      have HF4 := hid (show ∀ V, Upd (fun _ => False) wr V → Calls Try.prog 43 #[.pointer (some ⟨S4.rs[k].p, 0, none⟩)] V fun e V' => e = .returned (.int .i64 ((S4.rs[k].room - usedR S4.rs[k].F : Nat) : Int)) ∧ Upd (fun _ => False) V V' from fun V hV => by
        refine (refFree_any ((hon.keep hV).mem.rsIn k hi')).mono ?_
        rintro e V' ⟨rfl, q, rfl⟩
        exact ⟨rfl, (Upd.refl _ _).drewN q⟩)
      have HF5 := hid (show ∀ V, Upd (fun _ => False) wr V → Calls Try.prog 12 #[.pointer (some ⟨S4.ds[k].p, 0, none⟩)] V fun e V' => e = .returned (.bool false) ∧ Upd (fun _ => False) V V' from fun V hV => by
        refine (down_any ((hon.keep hV).mem.dsIn k hi)).mono ?_
        rintro e V' ⟨rfl, rfl⟩
        exact ⟨by rw [show S4.ds[k].down = false from hdn.1], Upd.refl _ _⟩)
      have HF6 := hid (show ∀ V v1 v2 l1 l2 b1 b2, FilesAt V b1 v1 l1 → FilesAt V b2 v2 l2 → l1.map FV.abs = l2.map FV.abs → Calls Try.prog 17 #[v1, v2] V fun e V' => e = .returned (.bool true) ∧ Upd (fun _ => False) V V' from fun V v1 v2 l1 l2 b1 b2 h1 h2 h3 => by
        refine (sameFiles_any h1 h2).mono ?_
        rintro e V' ⟨b, rfl, hb, hu⟩
        exact ⟨by rw [hb.2 h3], hu⟩)
      obtain ⟨dp, hdp⟩ : ∃ dp, dp = S4.ds[k].p := ⟨_, rfl⟩
      obtain ⟨rp, hrp⟩ : ∃ rp, rp = S4.rs[k].p := ⟨_, rfl⟩
      obtain ⟨c, hc⟩ : ∃ c : Int, c = ((S4.rs[k].room - usedR S4.rs[k].F : Nat) : Int) := ⟨_, rfl⟩
      rw [← hdp] at HF1 HF3 HF5 d0
      rw [← hrp] at HF2 HF4 d1
      rw [← hc] at HF3 HF4
      have hcc : (c == c) = true := by simp
      obtain ⟨fl, hfl⟩ : ∃ fl, fl = fileList S4.ds[k] := ⟨_, rfl⟩
      rw [← hfl] at HF1 HF2
      clear hm hdv hd hrv hr hlen2 hon hi hi' hd2 hr2 hal hso hcr hus hsf hrm hdn hdp hrp hc hfl
      have hdc' : n ≤ dc := by have := HN.out; omega
      have hrc' : n ≤ rc := by have := HN.out; have := HWR.out.mem.len; omega
      clear hdc hrc
      have hdr0 := hid (show Upd (fun _ => False) wr wr.drew from (Upd.refl _ wr).drew)
      go_wp2_with fail
      go_region_held3 (fun W => W.cell? ⟨P, 0, none⟩ = some (.slice (some ⟨gdd, 0, none⟩) n dc) ∧ W.cell? ⟨P, 1, none⟩ = some (.slice (some ⟨grr, 0, none⟩) n rc) ∧ W.cell? ⟨gdd, k, none⟩ = some (.pointer (some ⟨dp, 0, none⟩)) ∧ W.cell? ⟨grr, k, none⟩ = some (.pointer (some ⟨rp, 0, none⟩)))
        (first
          | go_keep
          | (go_split_ands
             refine ⟨?_, ?_, ?_, ?_⟩
             · (first | (rw [World.cell?_of_block (w := wr) (a := ⟨P, 0, none⟩) (hua.block P hPr (fun h => h))]; assumption) | (rw [World.cell?_of_block (w := wr) (a := ⟨P, 0, none⟩) (hub.block P hPr (fun h => h))]; assumption) | (rw [World.cell?_of_block (w := wr) (a := ⟨P, 0, none⟩) (huc.block P hPr (fun h => h))]; assumption) | (rw [World.cell?_of_block (w := wr) (a := ⟨P, 0, none⟩) (hud.block P hPr (fun h => h))]; assumption) | (rw [World.cell?_of_block (w := wr) (a := ⟨P, 0, none⟩) (hue.block P hPr (fun h => h))]; assumption) | (rw [World.cell?_of_block (w := wr) (a := ⟨P, 0, none⟩) (huf.block P hPr (fun h => h))]; assumption))
             · (first | (rw [World.cell?_of_block (w := wr) (a := ⟨P, 1, none⟩) (hua.block P hPr (fun h => h))]; assumption) | (rw [World.cell?_of_block (w := wr) (a := ⟨P, 1, none⟩) (hub.block P hPr (fun h => h))]; assumption) | (rw [World.cell?_of_block (w := wr) (a := ⟨P, 1, none⟩) (huc.block P hPr (fun h => h))]; assumption) | (rw [World.cell?_of_block (w := wr) (a := ⟨P, 1, none⟩) (hud.block P hPr (fun h => h))]; assumption) | (rw [World.cell?_of_block (w := wr) (a := ⟨P, 1, none⟩) (hue.block P hPr (fun h => h))]; assumption) | (rw [World.cell?_of_block (w := wr) (a := ⟨P, 1, none⟩) (huf.block P hPr (fun h => h))]; assumption))
             · (first | (rw [World.cell?_of_block (w := wr) (a := ⟨gdd, k, none⟩) (hua.block gdd hgd (fun h => h))]; assumption) | (rw [World.cell?_of_block (w := wr) (a := ⟨gdd, k, none⟩) (hub.block gdd hgd (fun h => h))]; assumption) | (rw [World.cell?_of_block (w := wr) (a := ⟨gdd, k, none⟩) (huc.block gdd hgd (fun h => h))]; assumption) | (rw [World.cell?_of_block (w := wr) (a := ⟨gdd, k, none⟩) (hud.block gdd hgd (fun h => h))]; assumption) | (rw [World.cell?_of_block (w := wr) (a := ⟨gdd, k, none⟩) (hue.block gdd hgd (fun h => h))]; assumption) | (rw [World.cell?_of_block (w := wr) (a := ⟨gdd, k, none⟩) (huf.block gdd hgd (fun h => h))]; assumption))
             · (first | (rw [World.cell?_of_block (w := wr) (a := ⟨grr, k, none⟩) (hua.block grr hgr (fun h => h))]; assumption) | (rw [World.cell?_of_block (w := wr) (a := ⟨grr, k, none⟩) (hub.block grr hgr (fun h => h))]; assumption) | (rw [World.cell?_of_block (w := wr) (a := ⟨grr, k, none⟩) (huc.block grr hgr (fun h => h))]; assumption) | (rw [World.cell?_of_block (w := wr) (a := ⟨grr, k, none⟩) (hud.block grr hgr (fun h => h))]; assumption) | (rw [World.cell?_of_block (w := wr) (a := ⟨grr, k, none⟩) (hue.block grr hgr (fun h => h))]; assumption) | (rw [World.cell?_of_block (w := wr) (a := ⟨grr, k, none⟩) (huf.block grr hgr (fun h => h))]; assumption))))
        (first
          | (go_at_call 16; refine (HF1.out _ (by first | exact hub | exact hdr0.out)).mono ?_; rintro e wa ⟨va, la, rfl, hfa, hla, h0a⟩; have hua : Upd (fun _ => False) wr wa := (by first | exact hub.trans h0a (fun _ _ h => h) | exact hdr0.out.trans h0a (fun _ _ h => h)))
          | (go_at_call 39; refine (HF2.out _ (by first | exact hua | exact hdr0.out)).mono ?_; rintro e wb ⟨vb, lb, rfl, hfb, hlb, h0b⟩; have hub : Upd (fun _ => False) wr wb := (by first | exact hua.trans h0b (fun _ _ h => h) | exact hdr0.out.trans h0b (fun _ _ h => h)))
          | (go_at_call 17; refine (HF6.out _ _ _ _ _ _ _ (by first | exact hfa | exact hfa.upd h0b (fun _ _ h => h)) (by first | exact hfb | exact hfb.upd h0a (fun _ _ h => h)) (hla.trans hlb.symm)).mono ?_; rintro e wc ⟨rfl, h0c⟩; have huc : Upd (fun _ => False) wr wc := (by first | exact hub.trans h0c (fun _ _ h => h) | exact hua.trans h0c (fun _ _ h => h)))
          | (go_at_call 25; refine (HF3.out _ (by first | exact hue | exact huc)).mono ?_; rintro e wd ⟨rfl, h0d⟩; have hud : Upd (fun _ => False) wr wd := (by first | exact hue.trans h0d (fun _ _ h => h) | exact huc.trans h0d (fun _ _ h => h)))
          | (go_at_call 43; refine (HF4.out _ (by first | exact hud | exact huc)).mono ?_; rintro e we ⟨rfl, h0e⟩; have hue : Upd (fun _ => False) wr we := (by first | exact hud.trans h0e (fun _ _ h => h) | exact huc.trans h0e (fun _ _ h => h)))
          | (go_at_call 12; refine (HF5.out _ (by first | exact hud | exact hue)).mono ?_; rintro e wf ⟨rfl, h0f⟩; have huf : Upd (fun _ => False) wr wf := (by first | exact hud.trans h0f (fun _ _ h => h) | exact hue.trans h0f (fun _ _ h => h)))
          | fail)
      all_goals
        have HFIN := hid (HWR.out.keep huf)
        go_wp2
        go_roundw
        case rel => exact ⟨k + 1, by omega, by first | rfl | simp, by go_num, HFIN.out⟩
        case measure => simp [intOf]; omega
    · obtain rfl : k = n := by omega
      clear hm hdv hd hrv hr hlen2 hon hdc hrc
      go_wp2
      go_ret
      exact ⟨rfl, HWR.out.upd.below (Nat.le_refl _) (fun _ h => h.elim)⟩

end Go.Proofs.Ytohpgmeflmppaaa
