/-
  DiskPlays, walked.
-/
import Derived.Test.YtohpgmeflmppaaaPF
import Derived.Test.YtohpgmeflmppaaaGS
import Derived.Test.YtohpgmeflmppaaaPG
namespace Go.Proofs.Ytohpgmeflmppaaa
set_option linter.unusedVariables false
set_option linter.unusedSimpArgs false
set_option linter.unnecessarySimpa false
set_option linter.unusedSectionVars false
open Go Go.RowKit

/-- v is a slice that reads as these calls. -/
structure OpsIn (w : World) (v : Value) (l : List OpI) : Prop where
  shape : ∃ ao cap, v = .slice ao l.length cap ∧ l.length ≤ cap ∧ cap ≤ 9223372036854775807 ∧ ∀ k (hk : k < l.length), ∃ b o, ao = some ⟨b, o, none⟩ ∧ b < w.heap.size ∧
    w.cell? ⟨b, o + k * 9, none⟩ = some (.int .i64 l[k].kind) ∧ w.cell? ⟨b, o + k * 9 + 1, none⟩ = some (.int .i64 l[k].obj) ∧ w.cell? ⟨b, o + k * 9 + 2, none⟩ = some (.string l[k].name) ∧ w.cell? ⟨b, o + k * 9 + 3, none⟩ = some (.string l[k].dest) ∧
    w.cell? ⟨b, o + k * 9 + 4, none⟩ = some l[k].bv ∧ w.cell? ⟨b, o + k * 9 + 5, none⟩ = some (.int .i64 l[k].pos) ∧ w.cell? ⟨b, o + k * 9 + 6, none⟩ = some (.int .i64 l[k].n) ∧ w.cell? ⟨b, o + k * 9 + 7, none⟩ = some l[k].cv ∧ w.cell? ⟨b, o + k * 9 + 8, none⟩ = some l[k].fv
  ok : ∀ o ∈ l, o.Ok2 w
  few : ∀ o ∈ l, o.files.length ≤ 1048576

set_option maxRecDepth 100000 in
set_option maxHeartbeats 6400000 in
theorem diskPlays_walk {W : World} {cap : Int} {v : Value} {l : List OpI} (hl : OpsIn W v l) (hlen : l.length ≤ 1048576) :
    Calls Try.prog 8 #[.int .i64 cap, v] W fun e W' => e = .returned (.bool true) ∧ Below W.heap.size W W' := by
  obtain ⟨ao, lc, rfl, hl1, hl2, hcells⟩ := hl.shape
  have HL := hid hl; have HCE := hid hcells
  obtain ⟨rm, hrm1, hrm2, hroom⟩ := room_any cap W
  have HROOM := hid hroom
  clear hl hcells hroom
  go_enter Try.func8, Try.ntmps8
  go_wp2_with fail
  refine HROOM.out.mono ?_
  rintro e w' ⟨rfl, hww⟩
  obtain rfl := hww.symm
  go_wp2_with fail
  refine (started_any W rm (by omega)).mono ?_
  rintro e w1 ⟨S, rfl, hon, hpos, hbn, hcm⟩
  have HON := hid hon
  obtain ⟨P, hP⟩ : ∃ P, P = S.p := ⟨_, rfl⟩
  rw [← hP]
  have HP := hid hP
  clear hon hcm hP
  go_wp2
  go_loopw [6] (fun i wr => ∃ k : Nat, k ≤ l.length ∧ k ≤ 2000 ∧ i = .int .i64 k ∧ ∃ S', WOn W wr S' ∧ S'.p = P ∧ 0 < S'.ds.length ∧ S'.b.n ≤ 1073741824 + (k : Int) * 281543764967424) (fun i _ => 2000 - (intOf i).toNat)
  case atStart => exact ⟨0, Nat.zero_le _, by omega, rfl, S, HON.out, HP.out.symm, hpos, by omega⟩
  case round =>
    obtain ⟨k, hk, hk2, rfl, S', hon, hSp, hlen1, hbn1⟩ := hrel
    have HON1 := hid hon; have HSP := hid hSp
    by_cases hgo : k < l.length ∧ k < 2000
    · obtain ⟨hlt, hlt2⟩ := hgo
      obtain ⟨b, o, rfl, hb, c0, c1, c2, c3, c4, c5, c6, c7, c8⟩ := HCE.out k hlt
      have hup := hon.upd
      obtain ⟨op, hop⟩ : ∃ op, op = l[k] := ⟨_, rfl⟩
      rw [← hop] at c0 c1 c2 c3 c4 c5 c6 c7 c8
      have hok : op.Ok2 W := by rw [hop]; exact HL.out.ok _ (List.getElem_mem hlt)
      have hfew : op.files.length ≤ 1048576 := by rw [hop]; exact HL.out.few _ (List.getElem_mem hlt)
      have hpl := plays_any hon hok hlen1 (by omega)
      obtain ⟨ba, bc, ca, cl, cc, fa, fl, fc, hb1, hc1, hf1⟩ := (OpI.shapes hok.ok).get
      have hcl : op.cells = #[.int .i64 op.kind, .int .i64 op.obj, .string op.name, .string op.dest, .slice ba op.bs.length bc, .int .i64 op.pos, .int .i64 op.n, .slice ca cl cc, .slice fa fl fc] := by unfold OpI.cells; rw [hb1, hc1, hf1]
      rw [hcl, hSp] at hpl
      rw [hb1] at c4
      rw [hc1] at c7
      rw [hf1] at c8
      have d0 := (World.cell?_of_block (a := ⟨b, o + k * 9, none⟩) (hup.block b hb (fun h => h))).trans c0
      have d1 := (World.cell?_of_block (a := ⟨b, o + k * 9 + 1, none⟩) (hup.block b hb (fun h => h))).trans c1
      have d2 := (World.cell?_of_block (a := ⟨b, o + k * 9 + 2, none⟩) (hup.block b hb (fun h => h))).trans c2
      have d3 := (World.cell?_of_block (a := ⟨b, o + k * 9 + 3, none⟩) (hup.block b hb (fun h => h))).trans c3
      have d4 := (World.cell?_of_block (a := ⟨b, o + k * 9 + 4, none⟩) (hup.block b hb (fun h => h))).trans c4
      have d5 := (World.cell?_of_block (a := ⟨b, o + k * 9 + 5, none⟩) (hup.block b hb (fun h => h))).trans c5
      have d6 := (World.cell?_of_block (a := ⟨b, o + k * 9 + 6, none⟩) (hup.block b hb (fun h => h))).trans c6
      have d7 := (World.cell?_of_block (a := ⟨b, o + k * 9 + 7, none⟩) (hup.block b hb (fun h => h))).trans c7
      have d8 := (World.cell?_of_block (a := ⟨b, o + k * 9 + 8, none⟩) (hup.block b hb (fun h => h))).trans c8
      have hbr : b < wr.heap.size := Nat.lt_of_lt_of_le hb hup.size
      have HPL := hid hpl
      obtain ⟨m20, hm20⟩ : ∃ m20 : Nat, (k : Int) % 20 = (m20 : Int) := ⟨k % 20, by omega⟩
      clear hon hSp hup hop hok hpl hb1 hc1 hf1 hcl c0 c1 c2 c3 c4 c5 c6 c7 c8
      go_wp2_with fail
      refine HPL.out.mono ?_
      rintro e w2 ⟨rfl, S2, p1, p2, p3, p4, p5⟩
      have hh := holds_any p1.mem.book p1.mem.top
      rw [p2, HSP.out] at hh
      have hP2 : P < w2.heap.size := by rw [← HSP.out, ← p2]; exact lt_of_heap p1.mem.top
      have HH := hid hh; have P1 := hid p1; have P2 := hid (p2.trans HSP.out)
      have hlen2 : 0 < S2.ds.length := by omega
      have hbn2 : S2.b.n ≤ 1073741824 + ((k + 1 : Nat) : Int) * 281543764967424 := by push_cast; omega
      clear hh p1 p2 p3 p4 p5 d0 d1 d2 d3 d4 d5 d6 d7 d8
      by_cases hz : m20 = 0
      · have hz1 : ((m20 : Int) == 0) = true := by simp [hz]
        clear hz
        go_wp2_with fail
        refine HH.out.mono ?_
        rintro e w3 ⟨rfl, hu3⟩
        have P3 := hid (P1.out.keep hu3)
        clear hu3
        go_wp2
        go_roundw
        case rel => exact ⟨k + 1, by omega, by omega, by go_num, S2, P3.out, P2.out, hlen2, hbn2⟩
        case measure => simp [intOf]; omega
      · have hz1 : ((m20 : Int) == 0) = false := by simp; omega
        clear hz
        go_wp2
        go_roundw
        case rel => exact ⟨k + 1, by omega, by omega, by go_num, S2, P1.out, P2.out, hlen2, hbn2⟩
        case measure => simp [intOf]; omega
    · have hm := hon.mem
      obtain ⟨gd, dc, hdv, -, hd⟩ := owns_shape hm.rowD
      obtain ⟨gr, rc, hrv, -, hr⟩ := owns_shape hm.rowR
      have hdc : S'.ds.length ≤ dc := by
        rcases hm.rowD.2 with ⟨e, hz⟩ | ⟨g, cap, cur, e, -, -, h1, -⟩
        · omega
        · rw [hdv] at e; injection e with _ _ e3; omega
      have hrc : S'.rs.length ≤ rc := by
        rcases hm.rowR.2 with ⟨e, hz⟩ | ⟨g, cap, cur, e, -, -, h1, -⟩
        · omega
        · rw [hrv] at e; injection e with _ _ e3; omega
      have hlen2 := hm.len
      obtain ⟨n, hn⟩ : ∃ n, n = S'.ds.length := ⟨_, rfl⟩
      have hi' : 0 < S'.rs.length := by omega
      obtain ⟨gdd, rfl, -, hgd, hd2⟩ := hd 0 hlen1
      obtain ⟨grr, rfl, -, hgr, hr2⟩ := hr 0 hi'
      have c0 : wr.cell? ⟨P, 0, none⟩ = some (.slice (some ⟨gdd, 0, none⟩) n dc) := by rw [← hSp, cell_of_row wr _ 0 _ _ _ hm.top, hn, ← hdv]; rfl
      have c1 : wr.cell? ⟨P, 1, none⟩ = some (.slice (some ⟨grr, 0, none⟩) n rc) := by rw [← hSp, cell_of_row wr _ 1 _ _ _ hm.top, hn, ← hlen2, ← hrv]; rfl
      have hPr : P < wr.heap.size := World.block_lt_of_cell? _ _ c0
      have d0 : wr.cell? ⟨gdd, 0, none⟩ = some (.pointer (some ⟨S'.ds[0].p, 0, none⟩)) := by rw [hd2 0 (by simpa using hlen1)]; simp [ptrD]
      have d1 : wr.cell? ⟨grr, 0, none⟩ = some (.pointer (some ⟨S'.rs[0].p, 0, none⟩)) := by rw [hr2 0 (by simpa using hi')]; simp [ptrR]
      obtain ⟨hal, hso⟩ := hon.pair 0 hlen1 hi'
      have hsf : S'.rs[0].F.map FV.abs = fileList S'.ds[0] := sorted_fileList (hm.dsIn 0 hlen1) hal hso
      have hcn : S'.ds[0].cnt = S'.rs[0].cnt := hal.cnt
      have HH := hid (show ∀ V, Upd (fun _ => False) wr V → Calls Try.prog 38 #[.pointer (some ⟨P, 2, none⟩)] V fun e V' => e = .returned (.bool true) ∧ Upd (fun _ => False) V V' from fun V hV => by have h := holds_any (hon.keep hV).mem.book (hon.keep hV).mem.top; rw [hSp] at h; exact h)
      have HF1 := hid (show ∀ V, Upd (fun _ => False) wr V → Calls Try.prog 16 #[.pointer (some ⟨S'.ds[0].p, 0, none⟩)] V fun e V' => ∃ v l, e = .returned v ∧ FilesAt V' V.heap.size v l ∧ l.map FV.abs = fileList S'.ds[0] ∧ Upd (fun _ => False) V V' from fun V hV => files_any ((hon.keep hV).mem.dsIn 0 hlen1))
      have HF2 := hid (show ∀ V, Upd (fun _ => False) wr V → Calls Try.prog 39 #[.pointer (some ⟨S'.rs[0].p, 0, none⟩)] V fun e V' => ∃ v l, e = .returned v ∧ FilesAt V' V.heap.size v l ∧ l.map FV.abs = fileList S'.ds[0] ∧ Upd (fun _ => False) V V' from fun V hV => by rw [← hsf]; exact refFiles_any ((hon.keep hV).mem.rsIn 0 hi'))
      have HF3 := hid (show ∀ V, Upd (fun _ => False) wr V → Calls Try.prog 40 #[.pointer (some ⟨S'.ds[0].p, 0, none⟩)] V fun e V' => e = .returned (cntV S'.rs[0].cnt) ∧ Upd (fun _ => False) V V' from fun V hV => by rw [← hcn]; exact counts_any ((hon.keep hV).mem.dsIn 0 hlen1))
      have HF6 := hid (show ∀ V v1 v2 l1 l2 b1 b2, FilesAt V b1 v1 l1 → FilesAt V b2 v2 l2 → l1.map FV.abs = l2.map FV.abs → Calls Try.prog 17 #[v1, v2] V fun e V' => e = .returned (.bool true) ∧ Upd (fun _ => False) V V' from fun V v1 v2 l1 l2 b1 b2 h1 h2 h3 => by
        refine (sameFiles_any h1 h2).mono ?_
        rintro e V' ⟨b, rfl, hb, hu⟩
        exact ⟨by rw [hb.2 h3], hu⟩)
      have hrin := hm.rsIn 0 hi'
      have r4 : wr.cell? ⟨S'.rs[0].p, 4, none⟩ = some (.int .i64 S'.rs[0].cnt.acts) := hrin.cell 4
      have r5 : wr.cell? ⟨S'.rs[0].p, 5, none⟩ = some (.int .i64 S'.rs[0].cnt.appends) := hrin.cell 5
      have r6 : wr.cell? ⟨S'.rs[0].p, 6, none⟩ = some (.int .i64 S'.rs[0].cnt.syncs) := hrin.cell 6
      have r7 : wr.cell? ⟨S'.rs[0].p, 7, none⟩ = some (.int .i64 S'.rs[0].cnt.renames) := hrin.cell 7
      have r8 : wr.cell? ⟨S'.rs[0].p, 8, none⟩ = some (.int .i64 S'.rs[0].cnt.deletes) := hrin.cell 8
      have r9 : wr.cell? ⟨S'.rs[0].p, 9, none⟩ = some (.int .i64 S'.rs[0].cnt.reads) := hrin.cell 9
      have hrp0 : S'.rs[0].p < wr.heap.size := hrin.plt
      unfold cntV at HF3
      generalize S'.rs[0].cnt.acts = x0 at HF3 r4
      generalize S'.rs[0].cnt.appends = x1 at HF3 r5
      generalize S'.rs[0].cnt.syncs = x2 at HF3 r6
      generalize S'.rs[0].cnt.renames = x3 at HF3 r7
      generalize S'.rs[0].cnt.deletes = x4 at HF3 r8
      generalize S'.rs[0].cnt.reads = x5 at HF3 r9
      obtain ⟨dp, hdp⟩ : ∃ dp, dp = S'.ds[0].p := ⟨_, rfl⟩
      obtain ⟨rp, hrp⟩ : ∃ rp, rp = S'.rs[0].p := ⟨_, rfl⟩
      obtain ⟨fl, hfl⟩ : ∃ fl, fl = fileList S'.ds[0] := ⟨_, rfl⟩
      rw [← hdp] at HF1 HF3 d0
      rw [← hrp] at HF2 d1 r4 r5 r6 r7 r8 r9 hrp0
      rw [← hfl] at HF1 HF2
      have hn0 : (0 : Int) < (n : Int) := by omega
      have hn1 : 0 < n := by omega
      have hdc' : n ≤ dc := by omega
      have hrc' : n ≤ rc := by omega
      have hdr0 := hid (show Upd (fun _ => False) wr wr.drew from (Upd.refl _ wr).drew)
      clear hm hdv hd hrv hr hdc hrc hlen2 hon hSp hd2 hr2 hal hso hsf hcn hdp hrp hfl hn hrin
      have hgo' : ¬ k < l.length ∨ ¬ k < 2000 := by omega
      clear hgo
      go_upto_region 10 with fail
      all_goals
        go_region_held3 (fun W => W.cell? ⟨P, 0, none⟩ = some (.slice (some ⟨gdd, 0, none⟩) n dc) ∧ W.cell? ⟨P, 1, none⟩ = some (.slice (some ⟨grr, 0, none⟩) n rc) ∧ W.cell? ⟨gdd, 0, none⟩ = some (.pointer (some ⟨dp, 0, none⟩)) ∧ W.cell? ⟨grr, 0, none⟩ = some (.pointer (some ⟨rp, 0, none⟩)) ∧ W.cell? ⟨rp, 4, none⟩ = some (.int .i64 x0) ∧ W.cell? ⟨rp, 5, none⟩ = some (.int .i64 x1) ∧ W.cell? ⟨rp, 6, none⟩ = some (.int .i64 x2) ∧ W.cell? ⟨rp, 7, none⟩ = some (.int .i64 x3) ∧ W.cell? ⟨rp, 8, none⟩ = some (.int .i64 x4) ∧ W.cell? ⟨rp, 9, none⟩ = some (.int .i64 x5))
          (first
            | go_keep
            | (go_split_ands
               refine ⟨?_, ?_, ?_, ?_, ?_, ?_, ?_, ?_, ?_, ?_⟩
               · (first | (rw [World.cell?_of_block (w := wr) (a := ⟨P, 0, none⟩) (hua.block P hPr (fun h => h))]; assumption) | (rw [World.cell?_of_block (w := wr) (a := ⟨P, 0, none⟩) (hub.block P hPr (fun h => h))]; assumption) | (rw [World.cell?_of_block (w := wr) (a := ⟨P, 0, none⟩) (huc.block P hPr (fun h => h))]; assumption) | (rw [World.cell?_of_block (w := wr) (a := ⟨P, 0, none⟩) (hud.block P hPr (fun h => h))]; assumption) | (rw [World.cell?_of_block (w := wr) (a := ⟨P, 0, none⟩) (hue.block P hPr (fun h => h))]; assumption))
               · (first | (rw [World.cell?_of_block (w := wr) (a := ⟨P, 1, none⟩) (hua.block P hPr (fun h => h))]; assumption) | (rw [World.cell?_of_block (w := wr) (a := ⟨P, 1, none⟩) (hub.block P hPr (fun h => h))]; assumption) | (rw [World.cell?_of_block (w := wr) (a := ⟨P, 1, none⟩) (huc.block P hPr (fun h => h))]; assumption) | (rw [World.cell?_of_block (w := wr) (a := ⟨P, 1, none⟩) (hud.block P hPr (fun h => h))]; assumption) | (rw [World.cell?_of_block (w := wr) (a := ⟨P, 1, none⟩) (hue.block P hPr (fun h => h))]; assumption))
               · (first | (rw [World.cell?_of_block (w := wr) (a := ⟨gdd, 0, none⟩) (hua.block gdd hgd (fun h => h))]; assumption) | (rw [World.cell?_of_block (w := wr) (a := ⟨gdd, 0, none⟩) (hub.block gdd hgd (fun h => h))]; assumption) | (rw [World.cell?_of_block (w := wr) (a := ⟨gdd, 0, none⟩) (huc.block gdd hgd (fun h => h))]; assumption) | (rw [World.cell?_of_block (w := wr) (a := ⟨gdd, 0, none⟩) (hud.block gdd hgd (fun h => h))]; assumption) | (rw [World.cell?_of_block (w := wr) (a := ⟨gdd, 0, none⟩) (hue.block gdd hgd (fun h => h))]; assumption))
               · (first | (rw [World.cell?_of_block (w := wr) (a := ⟨grr, 0, none⟩) (hua.block grr hgr (fun h => h))]; assumption) | (rw [World.cell?_of_block (w := wr) (a := ⟨grr, 0, none⟩) (hub.block grr hgr (fun h => h))]; assumption) | (rw [World.cell?_of_block (w := wr) (a := ⟨grr, 0, none⟩) (huc.block grr hgr (fun h => h))]; assumption) | (rw [World.cell?_of_block (w := wr) (a := ⟨grr, 0, none⟩) (hud.block grr hgr (fun h => h))]; assumption) | (rw [World.cell?_of_block (w := wr) (a := ⟨grr, 0, none⟩) (hue.block grr hgr (fun h => h))]; assumption))
               · (first | (rw [World.cell?_of_block (w := wr) (a := ⟨rp, 4, none⟩) (hua.block rp hrp0 (fun h => h))]; assumption) | (rw [World.cell?_of_block (w := wr) (a := ⟨rp, 4, none⟩) (hub.block rp hrp0 (fun h => h))]; assumption) | (rw [World.cell?_of_block (w := wr) (a := ⟨rp, 4, none⟩) (huc.block rp hrp0 (fun h => h))]; assumption) | (rw [World.cell?_of_block (w := wr) (a := ⟨rp, 4, none⟩) (hud.block rp hrp0 (fun h => h))]; assumption) | (rw [World.cell?_of_block (w := wr) (a := ⟨rp, 4, none⟩) (hue.block rp hrp0 (fun h => h))]; assumption))
               · (first | (rw [World.cell?_of_block (w := wr) (a := ⟨rp, 5, none⟩) (hua.block rp hrp0 (fun h => h))]; assumption) | (rw [World.cell?_of_block (w := wr) (a := ⟨rp, 5, none⟩) (hub.block rp hrp0 (fun h => h))]; assumption) | (rw [World.cell?_of_block (w := wr) (a := ⟨rp, 5, none⟩) (huc.block rp hrp0 (fun h => h))]; assumption) | (rw [World.cell?_of_block (w := wr) (a := ⟨rp, 5, none⟩) (hud.block rp hrp0 (fun h => h))]; assumption) | (rw [World.cell?_of_block (w := wr) (a := ⟨rp, 5, none⟩) (hue.block rp hrp0 (fun h => h))]; assumption))
               · (first | (rw [World.cell?_of_block (w := wr) (a := ⟨rp, 6, none⟩) (hua.block rp hrp0 (fun h => h))]; assumption) | (rw [World.cell?_of_block (w := wr) (a := ⟨rp, 6, none⟩) (hub.block rp hrp0 (fun h => h))]; assumption) | (rw [World.cell?_of_block (w := wr) (a := ⟨rp, 6, none⟩) (huc.block rp hrp0 (fun h => h))]; assumption) | (rw [World.cell?_of_block (w := wr) (a := ⟨rp, 6, none⟩) (hud.block rp hrp0 (fun h => h))]; assumption) | (rw [World.cell?_of_block (w := wr) (a := ⟨rp, 6, none⟩) (hue.block rp hrp0 (fun h => h))]; assumption))
               · (first | (rw [World.cell?_of_block (w := wr) (a := ⟨rp, 7, none⟩) (hua.block rp hrp0 (fun h => h))]; assumption) | (rw [World.cell?_of_block (w := wr) (a := ⟨rp, 7, none⟩) (hub.block rp hrp0 (fun h => h))]; assumption) | (rw [World.cell?_of_block (w := wr) (a := ⟨rp, 7, none⟩) (huc.block rp hrp0 (fun h => h))]; assumption) | (rw [World.cell?_of_block (w := wr) (a := ⟨rp, 7, none⟩) (hud.block rp hrp0 (fun h => h))]; assumption) | (rw [World.cell?_of_block (w := wr) (a := ⟨rp, 7, none⟩) (hue.block rp hrp0 (fun h => h))]; assumption))
               · (first | (rw [World.cell?_of_block (w := wr) (a := ⟨rp, 8, none⟩) (hua.block rp hrp0 (fun h => h))]; assumption) | (rw [World.cell?_of_block (w := wr) (a := ⟨rp, 8, none⟩) (hub.block rp hrp0 (fun h => h))]; assumption) | (rw [World.cell?_of_block (w := wr) (a := ⟨rp, 8, none⟩) (huc.block rp hrp0 (fun h => h))]; assumption) | (rw [World.cell?_of_block (w := wr) (a := ⟨rp, 8, none⟩) (hud.block rp hrp0 (fun h => h))]; assumption) | (rw [World.cell?_of_block (w := wr) (a := ⟨rp, 8, none⟩) (hue.block rp hrp0 (fun h => h))]; assumption))
               · (first | (rw [World.cell?_of_block (w := wr) (a := ⟨rp, 9, none⟩) (hua.block rp hrp0 (fun h => h))]; assumption) | (rw [World.cell?_of_block (w := wr) (a := ⟨rp, 9, none⟩) (hub.block rp hrp0 (fun h => h))]; assumption) | (rw [World.cell?_of_block (w := wr) (a := ⟨rp, 9, none⟩) (huc.block rp hrp0 (fun h => h))]; assumption) | (rw [World.cell?_of_block (w := wr) (a := ⟨rp, 9, none⟩) (hud.block rp hrp0 (fun h => h))]; assumption) | (rw [World.cell?_of_block (w := wr) (a := ⟨rp, 9, none⟩) (hue.block rp hrp0 (fun h => h))]; assumption))))
          (first
            | (go_at_call 38; refine (HH.out _ hdr0.out).mono ?_; rintro e we ⟨rfl, h0e⟩; have hue : Upd (fun _ => False) wr we := hdr0.out.trans h0e (fun _ _ h => h))
            | (go_at_call 16; refine (HF1.out _ (by first | exact hub | exact hue)).mono ?_; rintro e wa ⟨va, la, rfl, hfa, hla, h0a⟩; have hua : Upd (fun _ => False) wr wa := (by first | exact hub.trans h0a (fun _ _ h => h) | exact hue.trans h0a (fun _ _ h => h)))
            | (go_at_call 39; refine (HF2.out _ (by first | exact hua | exact hue)).mono ?_; rintro e wb ⟨vb, lb, rfl, hfb, hlb, h0b⟩; have hub : Upd (fun _ => False) wr wb := (by first | exact hua.trans h0b (fun _ _ h => h) | exact hue.trans h0b (fun _ _ h => h)))
            | (go_at_call 17; refine (HF6.out _ _ _ _ _ _ _ (by first | exact hfa | exact hfa.upd h0b (fun _ _ h => h)) (by first | exact hfb | exact hfb.upd h0a (fun _ _ h => h)) (hla.trans hlb.symm)).mono ?_; rintro e wc ⟨rfl, h0c⟩; have huc : Upd (fun _ => False) wr wc := (by first | exact hub.trans h0c (fun _ _ h => h) | exact hua.trans h0c (fun _ _ h => h)))
            | (go_at_call 40; refine (HF3.out _ huc).mono ?_; rintro e wd ⟨rfl, h0d⟩; have hud : Upd (fun _ => False) wr wd := huc.trans h0d (fun _ _ h => h))
            | fail)
        all_goals
          have HFIN := hid (HON1.out.keep hud)
          go_wp2
          go_ret
          exact ⟨by first | rfl | simp, HFIN.out.upd.below (Nat.le_refl _) (fun _ h => h.elim)⟩

end Go.Proofs.Ytohpgmeflmppaaa
