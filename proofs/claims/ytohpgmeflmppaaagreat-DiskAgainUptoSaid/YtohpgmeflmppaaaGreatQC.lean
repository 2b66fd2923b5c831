/-
  DiskAgain, walked.
-/
import Derived.Test.YtohpgmeflmppaaaGreatQB
import Derived.Test.YtohpgmeflmppaaaGreatPG
import Derived.Test.YtohpgmeflmppaaaGreatGS
import Derived.Deep.DeepCutAuto
import Derived.StillTailTactics
namespace Go.Proofs.YtohpgmeflmppaaaGreat
set_option linter.unusedVariables false
set_option linter.unusedSimpArgs false
set_option linter.unnecessarySimpa false
set_option linter.unusedSectionVars false
open Go Go.RowKit

/-- v is a slice that reads as these calls. -/
structure OpsIn (w : World) (v : Value) (l : List OpI) : Prop where
  shape : ∃ ao cap, v = .slice ao l.length cap ∧ l.length ≤ cap ∧ cap ≤ 9223372036854775807 ∧ ∀ k (hk : k < l.length), ∃ b o, ao = some ⟨b, o, none⟩ ∧ b < w.heap.size ∧
    w.cell? ⟨b, o + k * 9, none⟩ = some (.int .i64 l[k].kind) ∧ w.cell? ⟨b, o + k * 9 + 1, none⟩ = some (.int .i64 l[k].obj) ∧ w.cell? ⟨b, o + k * 9 + 2, none⟩ = some (.string l[k].name) ∧ w.cell? ⟨b, o + k * 9 + 3, none⟩ = some (.string l[k].dest) ∧
    w.cell? ⟨b, o + k * 9 + 4, none⟩ = some l[k].bv ∧ w.cell? ⟨b, o + k * 9 + 5, none⟩ = some (.int .i64 l[k].pos) ∧ w.cell? ⟨b, o + k * 9 + 6, none⟩ = some (.int .i64 l[k].n) ∧ w.cell? ⟨b, o + k * 9 + 7, none⟩ = some l[k].cv ∧ w.cell? ⟨b, o + k * 9 + 8, none⟩ = some l[k].fv
  ok : ∀ o ∈ l, o.Ok2 w
  few : ∀ o ∈ l, o.files.length ≤ 1048576

/-- How much the book may grow. -/
def mostN (l : List OpI) : Nat := (l.map fun o => o.files.length + 256).sum

theorem mostN_succ {l : List OpI} {k : Nat} (hk : k < l.length) : mostN (l.take (k + 1)) = mostN (l.take k) + (l[k].files.length + 256) := by
  unfold mostN
  rw [List.take_succ_eq_append_getElem hk, List.map_append, List.sum_append]
  simp

theorem mostN_take (l : List OpI) (k : Nat) : mostN (l.take k) ≤ mostN l := by
  have h : mostN l = mostN (l.take k) + mostN (l.drop k) := by
    unfold mostN
    rw [← List.sum_append, ← List.map_append, List.take_append_drop]
  omega

theorem make600 : ∃ M : Array Value, M.size = 1800 ∧ ∀ w : World, (Instr.makeSlice 40 (.int .i64 600) (.int .i64 600)).run Tryz.prog w = .ok (.slice (some ⟨w.heap.size, 0, none⟩) 600 600) (w.alloc (.cells M 80)) := by
  obtain ⟨i0, hi, hz0, hz1, hz2⟩ := info_parts Tryz.infoFile
  refine ⟨madeCells (Value.agg #[.string ByteArray.empty, .slice none 0 0, .int .i64 0]).cells 1800, by simp [size_madeCells], fun w => ?_⟩
  have h := run_make (P := Tryz.prog) w 40 80 i0 _ Tryz.underlying40 hi hz0 .i64 .i64 600 600 (by omega) (by omega) (by rw [hz2]; decide) (by decide)
  rw [hz1] at h
  exact h

/-- Ahead of the loop. -/
theorem AG.start {W w1 : World} {S : WS} (hon : WOn W w1 S) {M : Array Value} (hM : M.size = 1800) :
    AG W ((w1.alloc (.cells #[.slice none 0 0, .int .i64 0] 73)).alloc (.cells M 80)) (w1.heap.size + 1) ⟨S, ⟨w1.heap.size, .slice none 0 0, [], 0⟩, .slice none 0 0, [], M.toList, none⟩ := by
  have hu : Upd (fun _ => False) w1 ((w1.alloc (.cells #[.slice none 0 0, .int .i64 0] 73)).alloc (.cells M 80)) := ((Upd.refl _ _).alloc _).alloc _
  have h2 := hon.keep hu
  have hsz : ((w1.alloc (.cells #[.slice none 0 0, .int .i64 0] 73)).alloc (.cells M 80)).heap.size = w1.heap.size + 2 := by simp
  refine ⟨h2.mem, h2.upd, ⟨?_, .inl ⟨rfl, rfl⟩, (fun e => nomatch e), by simp, by simp⟩, ⟨rfl, .inl ⟨rfl, rfl⟩⟩, fun i hi => absurd hi (by simp), ⟨by simpa using hM, .inr ⟨w1.heap.size + 1, 600, M, rfl, Nat.zero_le _, ?_, by simp, by simp [maxLen], by simpa using hM, ?_⟩⟩, (fun q c e => nomatch e), ⟨⟨fun q => if q < w1.heap.size then 0 else if q = w1.heap.size then 1 else 3, fun L q hq => ?_⟩, fun L q hq => ?_⟩⟩
  · rw [heap_alloc_past _ _ _ (by simp)]
    exact heap_alloc_new w1 _
  · have h := heap_alloc_new (w1.alloc (.cells #[.slice none 0 0, .int .i64 0] 73)) (.cells M 80)
    simpa using h
  · rw [List.take_of_length_le (by simp [hM])]
  · show (if q < w1.heap.size then 0 else if q = w1.heap.size then 1 else 3) = L
    rcases hq with ⟨rfl, L', hq⟩ | ⟨rfl, hq⟩ | ⟨_, hq⟩ | ⟨rfl, hq⟩ | ⟨_, c, hq⟩ | ⟨i, hi, _⟩
    · rw [if_pos (hon.mem.lt hq)]
    · rcases hq with hq | hq
      · have e : q = w1.heap.size := hq
        rw [if_neg (by omega), if_pos e]
      · cases hq
    · cases hq
    · rw [if_neg (by omega), if_neg (by omega)]
    · cases hq
    · exact absurd hi (by simp)
  · rw [hsz]
    have hs0 := hon.upd.size
    rcases hq with ⟨rfl, L', hq⟩ | ⟨rfl, hq⟩ | ⟨_, hq⟩ | ⟨rfl, hq⟩ | ⟨_, c, hq⟩ | ⟨i, hi, _⟩
    · have h3 := hon.mem.lt hq
      exact ⟨hon.mem.low _ _ hq, by omega⟩
    · rcases hq with hq | hq
      · have e : q = w1.heap.size := hq
        omega
      · cases hq
    · cases hq
    · omega
    · cases hq
    · exact absurd hi (by simp)

set_option maxRecDepth 100000 in
set_option maxHeartbeats 6400000 in
theorem diskAgain_walk {W : World} {cap : Int} {v : Value} {l : List OpI} (hl : OpsIn W v l) (hlen : l.length ≤ 1048576) (hmost : mostN l ≤ 274726912) :
    Calls Tryz.prog 4 #[.int .i64 cap, v] W fun e W' => e = .returned (.bool true) ∧ Below W.heap.size W W' := by
  obtain ⟨ao, lc, rfl, hl1, hl2, hcells⟩ := hl.shape
  have HL := hid hl; have HCE := hid hcells
  obtain ⟨rm, hrm1, hrm2, hroom⟩ := room_any cap W
  have HROOM := hid hroom
  obtain ⟨M, hM, hmk⟩ := make600
  have HM := hid hM; have HMO := hid hmost
  clear hl hcells hroom hM hmost
  go_enter Tryz.func4, Tryz.ntmps4
  go_wp2_with fail
  refine HROOM.out.mono ?_
  rintro e w' ⟨rfl, hww⟩
  obtain rfl := hww.symm
  go_wp2_with fail
  refine (started_any W rm (by omega)).mono ?_
  rintro e w1 ⟨S, rfl, hon, hpos, hbn, hcm⟩
  have HON := hid hon
  obtain ⟨P, hP⟩ : ∃ P, P = S.p := ⟨_, rfl⟩
  rw [← hP]
  have HP := hid hP
  clear hon hcm hP
  go_wp2
  have hst := AG.start HON.out HM.out
  obtain ⟨w2, hw2⟩ : ∃ w2, w2 = (w1.alloc (.cells #[.slice none 0 0, .int .i64 0] 73)).alloc (.cells M 80) := ⟨_, rfl⟩
  rw [← hw2] at hst ⊢
  have hu2 : Upd (fun _ => False) w1 w2 := by rw [hw2]; exact ((Upd.refl _ _).alloc _).alloc _
  have HST := hid hst; have HU2 := hid hu2
  obtain ⟨pd, hpd⟩ : ∃ pd, pd = w1.heap.size := ⟨_, rfl⟩
  rw [← hpd] at HST ⊢
  obtain ⟨fg, hfg⟩ : ∃ fg, fg = pd + 1 := ⟨_, rfl⟩
  rw [← hfg] at HST ⊢
  clear hst hw2 hu2 hpd hfg hmk
  go_loopw [9, 7] (fun i dv wr => ∃ k : Nat, k ≤ l.length ∧ i = .int .i64 k ∧ ∃ s : AS, AG W wr fg s ∧ WOn W wr s.S ∧ s.S.p = P ∧ s.D.p = pd ∧ dv = s.dsv ∧ 0 < s.S.ds.length ∧ s.S.b.n ≤ 1073741824 + (mostN (l.take k) : Int) * 268435456 ∧ s.KS.length ≤ 280) (fun i _ _ => l.length - (intOf i).toNat)
  case atStart => exact ⟨0, Nat.zero_le _, rfl, _, HST.out, HON.out.keep HU2.out, HP.out.symm, rfl, rfl, hpos, by show S.b.n ≤ _; omega, by show ([] : List DK).length ≤ 280; simp⟩
  case round =>
    obtain ⟨k, hk, rfl, s, hag, hon, hSp, hDp, rfl, hlen1, hbn1, hks0⟩ := hrel
    have HAG := hid hag; have HON1 := hid hon; have HSP := hid hSp; have HDP := hid hDp
    clear hag hon hSp hDp
    by_cases hgo : k < l.length
    · obtain ⟨b, o, rfl, hb, c0, c1, c2, c3, c4, c5, c6, c7, c8⟩ := HCE.out k hgo
      have hup := HAG.out.upd
      obtain ⟨op, hop⟩ : ∃ op, op = l[k] := ⟨_, rfl⟩
      rw [← hop] at c0 c1 c2 c3 c4 c5 c6 c7 c8
      have hok : op.Ok2 W := by rw [hop]; exact HL.out.ok _ (List.getElem_mem hgo)
      have hfew : op.files.length ≤ 1048576 := by rw [hop]; exact HL.out.few _ (List.getElem_mem hgo)
      obtain ⟨ba, bc, ca, cl, cc, fa, fl, fc, hb1, hc1, hf1⟩ := (OpI.shapes hok.ok).get
      have hcl : op.cells = #[.int .i64 op.kind, .int .i64 op.obj, .string op.name, .string op.dest, .slice ba op.bs.length bc, .int .i64 op.pos, .int .i64 op.n, .slice ca cl cc, .slice fa fl fc] := by unfold OpI.cells; rw [hb1, hc1, hf1]
      rw [hb1] at c4
      rw [hc1] at c7
      rw [hf1] at c8
      have d0 := (World.cell?_of_block (a := ⟨b, o + k * 9, none⟩) (hup.block b hb (fun h => h))).trans c0
      have d1 := (World.cell?_of_block (a := ⟨b, o + k * 9 + 1, none⟩) (hup.block b hb (fun h => h))).trans c1
      have d2 := (World.cell?_of_block (a := ⟨b, o + k * 9 + 2, none⟩) (hup.block b hb (fun h => h))).trans c2
      have d3 := (World.cell?_of_block (a := ⟨b, o + k * 9 + 3, none⟩) (hup.block b hb (fun h => h))).trans c3
      have d4 := (World.cell?_of_block (a := ⟨b, o + k * 9 + 4, none⟩) (hup.block b hb (fun h => h))).trans c4
      have d5 := (World.cell?_of_block (a := ⟨b, o + k * 9 + 5, none⟩) (hup.block b hb (fun h => h))).trans c5
      have d6 := (World.cell?_of_block (a := ⟨b, o + k * 9 + 6, none⟩) (hup.block b hb (fun h => h))).trans c6
      have d7 := (World.cell?_of_block (a := ⟨b, o + k * 9 + 7, none⟩) (hup.block b hb (fun h => h))).trans c7
      have d8 := (World.cell?_of_block (a := ⟨b, o + k * 9 + 8, none⟩) (hup.block b hb (fun h => h))).trans c8
      have hbr : b < wr.heap.size := Nat.lt_of_lt_of_le hb hup.size
      have HOK := hid hok; have HB1 := hid hb1; have HC1 := hid hc1; have HF1 := hid hf1; have HCL := hid hcl
      have hmost1 : (mostN (l.take (k + 1)) : Int) = (mostN (l.take k) : Int) + ((op.files.length : Int) + 256) := by have h := mostN_succ hgo; rw [← hop] at h; omega
      have HMS := hid hmost1
      obtain ⟨dsa, dsc, hdsv, -, -⟩ := owns_shape HAG.out.row
      have HDSV := hid hdsv
      rw [hdsv]
      clear hup hop hok hb1 hc1 hf1 hcl c0 c1 c2 c3 c4 c5 c6 c7 c8 hdsv hmost1
      go_upto_region 11 with fail
      obtain ⟨wb, hwb⟩ : ∃ wb, wb = wr.alloc (.cells #[.int .i64 op.kind, .int .i64 op.obj, .string op.name, .string op.dest, .slice ba op.bs.length bc, .int .i64 op.pos, .int .i64 op.n, .slice ca cl cc, .slice fa fl fc] 42) := ⟨_, rfl⟩
      rw [← hwb]
      obtain ⟨fb, hfb⟩ : ∃ fb, fb = wr.heap.size := ⟨_, rfl⟩
      rw [← hfb]
      obtain ⟨m, hm⟩ : ∃ m, m = s.KS.length := ⟨_, rfl⟩
      rw [← hm]
      obtain ⟨s1, hag1, hon1, hp1, hd1, hdv1, hks1, hbx1, hL1, hbn2, hk280⟩ : ∃ s1 : AS, AG W wb fg s1 ∧ WOn W wb s1.S ∧ s1.S.p = P ∧ s1.D.p = pd ∧ s1.dsv = .slice dsa m dsc ∧ s1.KS.length = m ∧ s1.bx = some (fb, #[.int .i64 op.kind, .int .i64 op.obj, .string op.name, .string op.dest, .slice ba op.bs.length bc, .int .i64 op.pos, .int .i64 op.n, .slice ca cl cc, .slice fa fl fc]) ∧ 0 < s1.S.ds.length ∧ s1.S.b.n ≤ 1073741824 + (mostN (l.take k) : Int) * 268435456 ∧ s1.KS.length ≤ 280 := by
        have hub : Upd (fun _ => False) wr wb := by rw [hwb]; exact (Upd.refl _ _).alloc _
        have hbx : wb.heap[fb]? = some (.cells #[.int .i64 op.kind, .int .i64 op.obj, .string op.name, .string op.dest, .slice ba op.bs.length bc, .int .i64 op.pos, .int .i64 op.n, .slice ca cl cc, .slice fa fl fc] 42 (0, 0)) := by rw [hwb, hfb]; exact heap_alloc_new wr _
        exact ⟨{ s with bx := some (fb, #[.int .i64 op.kind, .int .i64 op.obj, .string op.name, .string op.dest, .slice ba op.bs.length bc, .int .i64 op.pos, .int .i64 op.n, .slice ca cl cc, .slice fa fl fc]) }, HAG.out.newBox hub (by omega) hbx, HON1.out.keep hub, HSP.out, HDP.out, by rw [hm]; exact HDSV.out, hm.symm, rfl, hlen1, hbn1, hks0⟩
      have HAG1 := hid hag1; have HONB := hid hon1; have HP1 := hid hp1; have HD1 := hid hd1; have HDV1 := hid hdv1; have HKS1 := hid hks1; have HBX1 := hid hbx1; have HK280 := hid hk280
      obtain ⟨L, hL⟩ : ∃ L, L = s1.S.ds.length := ⟨_, rfl⟩
      have HLL := hid hL
      obtain ⟨gd, dc, hdv, hdc1, hdc2⟩ := owns_slice hag1.mem.rowD hL1
      obtain ⟨gr, rc, hrv, hrc1, hrc2⟩ := owns_slice hag1.mem.rowR (by rw [hag1.mem.len]; exact hL1)
      rw [hag1.mem.len] at hrv hrc1
      have hL5 : L ≤ 5 := by rw [hL]; exact hon1.few
      rw [← hL] at hdv hdc1 hrv hrc1 hL1
      have HDV := hid hdv; have HRV := hid hrv
      obtain ⟨p0, p1, pl⟩ := hag1.at_p hdv hrv
      rw [hp1] at p0 p1 pl
      have b0 := hag1.at_b hbx1 (i := 0) rfl
      have b1 := hag1.at_b hbx1 (i := 1) rfl
      have b2 := hag1.at_b hbx1 (i := 2) rfl
      have b3 := hag1.at_b hbx1 (i := 3) rfl
      have b4 := hag1.at_b hbx1 (i := 4) rfl
      have b5 := hag1.at_b hbx1 (i := 5) rfl
      have b6 := hag1.at_b hbx1 (i := 6) rfl
      have b7 := hag1.at_b hbx1 (i := 7) rfl
      have b8 := hag1.at_b hbx1 (i := 8) rfl
      have bl := hag1.at_bl hbx1
      obtain ⟨x, hx, hx1, hx2⟩ := whose op.obj L hL1
      obtain ⟨j, hj⟩ : ∃ j : Nat, (j : Int) = if x < 0 then x + (L : Int) else x := ⟨(if x < 0 then x + (L : Int) else x).toNat, by split <;> omega⟩
      have hjL : j < L := by split at hj <;> omega
      have HJ := hid hj
      have hne : (L : Int) ≠ 0 := by omega
      clear hk280 hks0 hwb hfb hag1 hon1 hp1 hd1 hdv1 hks1 hbx1 hL hdv hrv hj HAG HON1 HSP HDP HDSV hm d0 d1 d2 d3 d4 d5 d6 d7 d8 hbn1 hlen1
      go_quiet (fail)
      revert nq
      intro q
      replace p0 : (wb.drewN q).cell? _ = _ := p0
      replace p1 : (wb.drewN q).cell? _ = _ := p1
      replace pl : P < (wb.drewN q).heap.size := pl
      replace b0 : (wb.drewN q).cell? _ = _ := b0
      replace b1 : (wb.drewN q).cell? _ = _ := b1
      replace b2 : (wb.drewN q).cell? _ = _ := b2
      replace b3 : (wb.drewN q).cell? _ = _ := b3
      replace b4 : (wb.drewN q).cell? _ = _ := b4
      replace b5 : (wb.drewN q).cell? _ = _ := b5
      replace b6 : (wb.drewN q).cell? _ = _ := b6
      replace b7 : (wb.drewN q).cell? _ = _ := b7
      replace b8 : (wb.drewN q).cell? _ = _ := b8
      replace bl : fb < (wb.drewN q).heap.size := bl
      have HAGQ := hid (HAG1.out.keep ((Upd.refl (fun _ => False) wb).drewN q))
      have HONQ := hid (HONB.out.keep ((Upd.refl (fun _ => False) wb).drewN q))
      clear HAG1 HONB
      generalize wb.drewN q = wq at *
      go_upto_if 46 with fail
      go_cut [11] (fun v wx => v = .int .i64 (j : Int) ∧ wx = wq)
      case first =>
       as_aux_lemma =>
        by_cases hxn : x < 0
        · have hjx : (j : Int) = x + (L : Int) := by have h := HJ.out; rw [if_pos hxn] at h; exact h
          go_wp2
          go_meet
          case rel => first | exact ⟨rfl, rfl⟩ | exact ⟨by rw [hjx], rfl⟩ | (trace_state; exact ⟨by simp [hjx], rfl⟩)
        · obtain rfl : x = (j : Int) := by have h := HJ.out; rw [if_neg hxn] at h; exact h.symm
          go_wp2
          go_meet
          case rel => exact ⟨rfl, rfl⟩
      case rest =>
        obtain ⟨rfl, hcw⟩ := hcut
        obtain rfl := hcw.symm
        clear HJ hx hx1 hx2 hcw
        go_upto_region 15 with fail
        iterate 10 (first | go_values | go_skip | go_guarded | go_step | go_upon | go_back | (simp only [Int.not_lt, Int.not_le] at *; go_simp))
        go_cut [7, 12] (fun dv okv wx => ∃ s2 : AS, AG W wx fg s2 ∧ WOn W wx s2.S ∧ s2.S.p = P ∧ s2.D.p = pd ∧ dv = s2.dsv ∧ okv = .bool true ∧ L ≤ s2.S.ds.length ∧ s2.S.b.n ≤ 1073741824 + (mostN (l.take (k + 1)) : Int) * 268435456 ∧ s2.KS.length ≤ 280)
        case first =>
          by_cases hk2 : op.kind = 2
          · have e1 : (op.kind == 2) = true := by simpa using hk2
            clear hk2
            as_aux_lemma =>
            obtain ⟨hjd, hjr⟩ : j < s1.S.ds.length ∧ j < s1.S.rs.length := by have h1 := HLL.out; have h2 := HAGQ.out.mem.len; omega
            obtain ⟨dp, hdp⟩ : ∃ dp, s1.S.ds[j].p = dp := ⟨_, rfl⟩
            obtain ⟨rp, hrp⟩ : ∃ rp, s1.S.rs[j].p = rp := ⟨_, rfl⟩
            obtain ⟨ec, hec⟩ : ∃ ec, (cAppend s1.S.ds[j].abs op.name op.bs).1 = ec := ⟨_, rfl⟩
            obtain ⟨r0, gdl⟩ := HAGQ.out.at_d HDV.out hjd hdp
            obtain ⟨r1, grl⟩ := HAGQ.out.at_r HRV.out hjr hrp
            have HKC1 := hid (show ∀ V D', AG W V fg { s1 with D := D' } → V.cell? ⟨P, 0, none⟩ = some (.slice (some ⟨gd, 0, none⟩) L dc) ∧ V.cell? ⟨P, 1, none⟩ = some (.slice (some ⟨gr, 0, none⟩) L rc) ∧ V.cell? ⟨gd, j, none⟩ = some (.pointer (some ⟨dp, 0, none⟩)) ∧ V.cell? ⟨gr, j, none⟩ = some (.pointer (some ⟨rp, 0, none⟩)) ∧ V.cell? ⟨fb, 2, none⟩ = some (.string op.name) ∧ V.cell? ⟨fb, 4, none⟩ = some (.slice ba op.bs.length bc) from fun V D' h => by
              have h1 := h.at_p HDV.out HRV.out
              rw [show ({ s1 with D := D' } : AS).S.p = P from HP1.out] at h1
              exact ⟨h1.1, h1.2.1, (h.at_d HDV.out hjd hdp).1, (h.at_r HRV.out hjr hrp).1, h.at_b (i := 2) HBX1.out rfl, h.at_b (i := 4) HBX1.out rfl⟩)
            have HKC2 := hid (show ∀ V D' s2, AG W V fg { s1 with D := D', S := { s1.S with ds := s1.S.ds.set j s2 } } → s2.p = dp → V.cell? ⟨P, 0, none⟩ = some (.slice (some ⟨gd, 0, none⟩) L dc) ∧ V.cell? ⟨P, 1, none⟩ = some (.slice (some ⟨gr, 0, none⟩) L rc) ∧ V.cell? ⟨gd, j, none⟩ = some (.pointer (some ⟨dp, 0, none⟩)) ∧ V.cell? ⟨gr, j, none⟩ = some (.pointer (some ⟨rp, 0, none⟩)) ∧ V.cell? ⟨fb, 2, none⟩ = some (.string op.name) ∧ V.cell? ⟨fb, 4, none⟩ = some (.slice ba op.bs.length bc) from fun V D' s2 h e => by
              have h1 := h.at_p HDV.out HRV.out
              rw [show ({ s1 with D := D', S := { s1.S with ds := s1.S.ds.set j s2 } } : AS).S.p = P from HP1.out] at h1
              exact ⟨h1.1, h1.2.1, (h.at_d (k := j) HDV.out (by simpa using hjd) (p := dp) (by simpa using e)).1, (h.at_r HRV.out hjr hrp).1, h.at_b (i := 2) HBX1.out rfl, h.at_b (i := 4) HBX1.out rfl⟩)
            have HKC3 := hid (show ∀ V D' s2 r2, AG W V fg { s1 with D := D', S := { s1.S with ds := s1.S.ds.set j s2, rs := s1.S.rs.set j r2 } } → s2.p = dp → r2.p = rp → V.cell? ⟨P, 0, none⟩ = some (.slice (some ⟨gd, 0, none⟩) L dc) ∧ V.cell? ⟨P, 1, none⟩ = some (.slice (some ⟨gr, 0, none⟩) L rc) ∧ V.cell? ⟨gd, j, none⟩ = some (.pointer (some ⟨dp, 0, none⟩)) ∧ V.cell? ⟨gr, j, none⟩ = some (.pointer (some ⟨rp, 0, none⟩)) ∧ V.cell? ⟨fb, 2, none⟩ = some (.string op.name) ∧ V.cell? ⟨fb, 4, none⟩ = some (.slice ba op.bs.length bc) from fun V D' s2 r2 h e e' => by
              have h1 := h.at_p HDV.out HRV.out
              rw [show ({ s1 with D := D', S := { s1.S with ds := s1.S.ds.set j s2, rs := s1.S.rs.set j r2 } } : AS).S.p = P from HP1.out] at h1
              exact ⟨h1.1, h1.2.1, (h.at_d (k := j) HDV.out (by simpa using hjd) (p := dp) (by simpa using e)).1, (h.at_r (k := j) HRV.out (by simpa using hjr) (p := rp) (by simpa using e')).1, h.at_b (i := 2) HBX1.out rfl, h.at_b (i := 4) HBX1.out rfl⟩)
            have HLND := hid (show ∀ V, Upd (fun _ => False) wq V → Calls Tryz.prog 28 #[.pointer (some ⟨pd, 0, none⟩), .slice ba op.bs.length bc] V fun e V' => ∃ D' g c, e = .returned (.slice (some ⟨g, 0, none⟩) op.bs.length c) ∧ AG W V' fg { s1 with D := D' } ∧ D'.p = pd ∧ D'.Lent op.bs ∧ D'.rv = .slice (some ⟨g, 0, none⟩) D'.bs.length c from fun V hV => by
              have h := (HAGQ.out.keep hV).lend HOK.out.ok.bytes HOK.out.ok.bytesLow HOK.out.ok.bytesFew
              rw [HB1.out, HD1.out] at h
              exact h)
            have HAPP := hid (show ∀ V D' g c, AG W V fg { s1 with D := D' } → D'.Lent op.bs → D'.rv = .slice (some ⟨g, 0, none⟩) D'.bs.length c → Calls Tryz.prog 27 #[.pointer (some ⟨dp, 0, none⟩), .string op.name, .slice (some ⟨g, 0, none⟩) op.bs.length c] V fun e V' => e = .returned (.int .i64 ec) ∧ ∃ s2, AG W V' fg { s1 with D := D', S := { s1.S with ds := s1.S.ds.set j s2 } } ∧ s2.p = dp ∧ s2.abs = (cAppend s1.S.ds[j].abs op.name op.bs).2 from fun V D' g c h h2 h3 => by
              have h4 := h.append (k := j) hjd op.name h2 h3
              rw [show ({ s1 with D := D' } : AS).S.ds[j].p = dp from hdp, show (cAppend ({ s1 with D := D' } : AS).S.ds[j].abs op.name op.bs).1 = ec from hec] at h4
              exact h4)
            have HREF := hid (show ∀ V D' s2, AG W V fg { s1 with D := D', S := { s1.S with ds := s1.S.ds.set j s2 } } → Calls Tryz.prog 29 #[.pointer (some ⟨rp, 0, none⟩), .string op.name, .slice ba op.bs.length bc] V fun e V' => e = .returned (.int .i64 ec) ∧ ∃ r2, AG W V' fg { s1 with D := D', S := { s1.S with ds := s1.S.ds.set j s2, rs := s1.S.rs.set j r2 } } ∧ r2.p = rp ∧ Alike r2.abs (cAppend s1.S.rs[j].abs op.name op.bs).2 ∧ Sorted r2.F from fun V D' s2 h => by
              have h4 := h.refAppend (k := j) hjr (HONQ.out.pair j hjd hjr).2 op.name HOK.out.ok.bytes HOK.out.ok.bytesLow HOK.out.ok.bytesFew
              rw [show ({ s1 with D := D', S := { s1.S with ds := s1.S.ds.set j s2 } } : AS).S.rs[j].p = rp from hrp, show (cAppend ({ s1 with D := D', S := { s1.S with ds := s1.S.ds.set j s2 } } : AS).S.rs[j].abs op.name op.bs).1 = ec from (append_same HONQ.out hjd hjr op.name op.bs).trans hec, HB1.out] at h4
              exact h4)
            have HBCK := hid (show ∀ V D' s2 r2, AG W V fg { s1 with D := D', S := { s1.S with ds := s1.S.ds.set j s2, rs := s1.S.rs.set j r2 } } → D'.Lent op.bs → D'.p = pd → Calls Tryz.prog 30 #[.pointer (some ⟨pd, 0, none⟩), .slice ba op.bs.length bc] V fun e V' => e = .returned (.bool true) ∧ AG W V' fg { s1 with D := D', S := { s1.S with ds := s1.S.ds.set j s2, rs := s1.S.rs.set j r2 } } ∧ Upd (fun _ => False) V V' from fun V D' s2 r2 h h2 h3 => by
              have h4 := h.back HOK.out.ok.bytes HOK.out.ok.bytesLow h2
              rw [show ({ s1 with D := D', S := { s1.S with ds := s1.S.ds.set j s2, rs := s1.S.rs.set j r2 } } : AS).D.p = pd from h3, HB1.out] at h4
              exact h4)
            have HWIP := hid (show ∀ V D' s2 r2, AG W V fg { s1 with D := D', S := { s1.S with ds := s1.S.ds.set j s2, rs := s1.S.rs.set j r2 } } → D'.p = pd → Calls Tryz.prog 31 #[.pointer (some ⟨pd, 0, none⟩)] V fun e V' => e = .returned (.tuple #[]) ∧ ∃ D'', AG W V' fg { s1 with D := D'', S := { s1.S with ds := s1.S.ds.set j s2, rs := s1.S.rs.set j r2 } } ∧ D''.p = pd from fun V D' s2 r2 h h3 => by
              have h4 := h.wipe
              rw [show ({ s1 with D := D', S := { s1.S with ds := s1.S.ds.set j s2, rs := s1.S.rs.set j r2 } } : AS).D.p = pd from h3] at h4
              exact h4)
            have hdr0 := hid (show Upd (fun _ => False) wq wq.drew from (Upd.refl _ wq).drew)
            have hee : (ec == ec) = true := by simp
            have hlj : ¬ (L : Int) ≤ (j : Int) := by omega
            have hj0 : ¬ (j : Int) < 0 := by omega
            clear hdp hrp hec b0 b1 b3 b5 b6 b7 b8
            go_upto_region 18 with fail
            go_region_held3 (fun V => V.cell? ⟨P, 0, none⟩ = some (.slice (some ⟨gd, 0, none⟩) L dc) ∧ V.cell? ⟨P, 1, none⟩ = some (.slice (some ⟨gr, 0, none⟩) L rc) ∧ V.cell? ⟨gd, j, none⟩ = some (.pointer (some ⟨dp, 0, none⟩)) ∧ V.cell? ⟨gr, j, none⟩ = some (.pointer (some ⟨rp, 0, none⟩)) ∧ V.cell? ⟨fb, 2, none⟩ = some (.string op.name) ∧ V.cell? ⟨fb, 4, none⟩ = some (.slice ba op.bs.length bc))
              (first | go_keep | exact HKC2.out _ _ _ hs2.out hs2p | exact HKC1.out _ _ hlg.out)
              (first
                | (go_at_call 28; refine (HLND.out _ hdr0.out).mono ?_; rintro e wa ⟨D', g, c, rfl, h1, hDp, h2, h3⟩; have hlg := hid h1; have hlt := hid h2; have hrv2 := hid h3; clear h1 h2 h3)
                | (go_at_call 27; refine (HAPP.out _ _ _ _ hlg.out hlt.out hrv2.out).mono ?_; rintro e w3 ⟨rfl, s2, h1, hs2p, h2⟩; have hs2 := hid h1; have habs := hid h2; clear h1 h2)
                | fail)
            all_goals
              obtain ⟨c0, c1, c2, c3, c4, c5⟩ := HKC2.out _ _ _ hs2.out hs2p
              have hP3 := World.block_lt_of_cell? _ _ c0
              have hf3 := World.block_lt_of_cell? _ _ c4
              have hgr3 := World.block_lt_of_cell? _ _ c3
              clear p0 p1 pl b2 b4 bl r0 r1 gdl grl hlg hrv2
              have hs2d := hid (hs2.out.keep ((Upd.refl (fun _ => False) w3).drew))
              go_upto_region 19 with fail
              go_region_held3 (fun V => V.cell? ⟨P, 0, none⟩ = some (.slice (some ⟨gd, 0, none⟩) L dc) ∧ V.cell? ⟨P, 1, none⟩ = some (.slice (some ⟨gr, 0, none⟩) L rc) ∧ V.cell? ⟨gd, j, none⟩ = some (.pointer (some ⟨dp, 0, none⟩)) ∧ V.cell? ⟨gr, j, none⟩ = some (.pointer (some ⟨rp, 0, none⟩)) ∧ V.cell? ⟨fb, 2, none⟩ = some (.string op.name) ∧ V.cell? ⟨fb, 4, none⟩ = some (.slice ba op.bs.length bc))
                (first | go_keep | exact HKC3.out _ _ _ _ hb2.out hs2p hr2p | exact HKC3.out _ _ _ _ hr2.out hs2p hr2p)
                (first
                  | (go_at_call 9; refine (num_any _ _).mono ?_; rintro e w' ⟨rfl, hww⟩; obtain rfl := hww.symm)
                  | (go_at_call 29; refine (HREF.out _ _ _ hs2d.out).mono ?_; rintro e w4 ⟨rfl, r2, h1, hr2p, h2, h3⟩; have hr2 := hid h1; have hal := hid h2; have hso := hid h3; clear h1 h2 h3)
                  | (go_at_call 30; refine (HBCK.out _ _ _ _ hr2.out hlt.out hDp).mono ?_; rintro e w5 ⟨rfl, h1, h2⟩; have hb2 := hid h1; clear h1 h2)
                  | fail)
              all_goals
                clear c0 c1 c2 c3 c4 c5 hP3 hf3 hgr3 hs2d
                go_wp2_with fail
                refine (HWIP.out _ _ _ _ hb2.out hDp).mono ?_
                rintro e w6 ⟨rfl, D'', h1, h2⟩
                have HF := hid (show ∃ s2 : AS, AG W w6 fg s2 ∧ WOn W w6 s2.S ∧ s2.S.p = P ∧ s2.D.p = pd ∧ Value.slice dsa m dsc = s2.dsv ∧ L ≤ s2.S.ds.length ∧ s2.S.b.n ≤ 1073741824 + (mostN (l.take (k + 1)) : Int) * 268435456 ∧ s2.KS.length ≤ 280 from ⟨_, h1, AG.appended (s := s1) HONQ.out hjd hjr rfl h1 habs.out hal.out hso.out, HP1.out, h2, HDV1.out.symm, by show L ≤ (s1.S.ds.set j s2).length; rw [List.length_set, ← HLL.out]; exact Nat.le_refl _, by have h5 := HMS.out; show s1.S.b.n ≤ _; omega, HK280.out⟩)
                clear h1 h2 hs2 habs hr2 hal hso hb2 hlt
                go_wp2
                go_meet
                case rel =>
                  obtain ⟨s3, r1, r2, r3, r4, r5, r6, r7, r8⟩ := HF.out
                  exact ⟨s3, r1, r2, r3, r4, r5, rfl, r6, r7, r8⟩
          · by_cases hk18 : op.kind = 18
            · have e1 : (op.kind == 2) = false := by simpa using hk2
              have e2 : (op.kind == 18) = true := by simpa using hk18
              clear hk2 hk18
              as_aux_lemma =>
              obtain ⟨fa', fc', hfv, hfl1, hfl2, hfcells⟩ := HOK.out.ok.files.shape
              obtain ⟨rfl, hflen, rfl⟩ : fa = fa' ∧ op.files.length = fl ∧ fc = fc' := by rw [HF1.out] at hfv; injection hfv with h1 h2 h3; exact ⟨h1, h2.symm, h3⟩
              have HFC := hid hfcells; have HFL := hid hflen
              rw [hflen] at hfl1
              clear hfv hfcells hflen
              by_cases hbig : 280 < fl
              · have hbig' : (280 : Int) < (fl : Int) := by omega
                go_wp2
                go_roundw
                case rel => exact ⟨k + 1, by omega, by go_num, s1, HAGQ.out, HONQ.out, HP1.out, HD1.out, HDV1.out.symm, by have := HLL.out; omega, by have := HMS.out; omega, HK280.out⟩
                case measure => simp [intOf]; omega
              · have hbig' : ¬ (280 : Int) < (fl : Int) := by omega
                go_wp2
                go_loopw [14] (fun c wr => ∃ i : Nat, i ≤ 600 ∧ c = .int .i64 i ∧ ∃ xs, AG W wr fg { s1 with xs := xs } ∧ ∀ t, t < i → BehindAt xs t) (fun c _ => 600 - (intOf c).toNat)
                case atStart => exact ⟨0, by omega, rfl, s1.xs, HAGQ.out, fun t ht => absurd ht (by omega)⟩
                case round =>
                 clear p0 p1 pl b0 b1 b2 b3 b4 b5 b6 b7 b8 bl
                 obtain ⟨i, hi, rfl, xs, hag, hbe⟩ := hrel
                 by_cases hlt : i < 600
                 · as_aux_lemma =>
                   obtain ⟨⟨o1, z1⟩, z2, ⟨o2, z3⟩, z4, ⟨o3, z5⟩, z6, z7⟩ := hag.room3 hlt (.string behindB) (.slice none 0 0)
                   have HAG3 := hid (hag.store hlt (.string behindB) (.slice none 0 0) (.int .i64 i))
                   have HXL := hid hag.xsl; have HBE := hid hbe
                   have hi2 : (i : Int) < 600 := by omega
                   unfold behindB at z3 z5 z4 z6
                   clear hag hbe
                   go_wp2
                   go_roundw
                   case rel => exact ⟨i + 1, by omega, by go_num, _, HAG3.out, fun t ht => by
                     by_cases e : t = i
                     · subst e; exact row3_at HXL.out hlt _ _ _
                     · exact row3_ne e _ _ _ (HBE.out t (by omega))⟩
                   case measure => simp [intOf]; omega
                 · have HI6 := hid (show i = 600 by omega)
                   have hi6 : ¬ (i : Int) < 600 := by omega
                   have HAGA := hid hag; have HBEA := hid hbe
                   have hfl6 : fl ≤ 600 := by omega
                   clear hag hbe hi hlt
                   go_wp2
                   go_loopw [15, 7] (fun c dv wr => ∃ i : Nat, i ≤ fl ∧ c = .int .i64 i ∧ ∃ xs KS dsv, AG W wr fg { s1 with xs := xs, KS := KS, dsv := dsv } ∧ dv = dsv ∧ i ≤ KS.length ∧ KS.length ≤ 280 ∧ (∀ t, t < i → LentAt KS op.files xs t) ∧ ∀ t, i ≤ t → t < 600 → BehindAt xs t) (fun c _ _ => fl - (intOf c).toNat)
                   case atStart => exact ⟨0, by omega, rfl, xs, s1.KS, s1.dsv, HAGA.out, HDV1.out.symm, by omega, HK280.out, fun t ht => absurd ht (by omega), fun t _ ht => HBEA.out t (by rw [HI6.out]; exact ht)⟩
                   case round =>
                    obtain ⟨i, hi, rfl, xs, KS, dsv, hag, hdve, hiK, hK280, hlent, hbeh⟩ := hrel
                    obtain ⟨g7, c7, hdsv⟩ : ∃ g7 c7, dsv = .slice g7 KS.length c7 := by
                      obtain ⟨g, c, h, -, -⟩ := owns_shape hag.row
                      exact ⟨g, c, h⟩
                    subst hdsv
                    subst hdve
                    have HAGB := hid hag; have HLE := hid hlent; have HBH := hid hbeh
                    have b8 := hag.at_b (i := 8) HBX1.out rfl
                    have bl := hag.at_bl HBX1.out
                    clear hag hlent hbeh
                    by_cases hlt : i < fl
                    · obtain ⟨fbk, fo, rfl, hfb, f0, f1, f2⟩ := HFC.out i (by rw [HFL.out]; exact hlt)
                      have hupr := HAGB.out.upd
                      obtain ⟨f, hfe⟩ : ∃ f, f = op.files[i]'(by rw [HFL.out]; exact hlt) := ⟨_, rfl⟩
                      rw [← hfe] at f0 f1 f2
                      have hfm : f ∈ op.files := by rw [hfe]; exact List.getElem_mem _
                      have hfi : op.files[i]? = some f := by rw [hfe]; exact List.getElem?_eq_getElem _
                      have hby := HOK.out.ok.files.bytes f hfm
                      have hblow := HOK.out.ok.files.low f hfm
                      have hbfew := HOK.out.ok.filesFew f hfm
                      obtain ⟨po, pc, hfdv, -, -⟩ := id hby
                      rw [hfdv] at f1 hby hblow
                      have HBY := hid hby; have HBLOW := hid hblow; have HFI := hid hfi
                      have f0' := (World.cell?_of_block (a := ⟨fbk, fo + i * 3, none⟩) (hupr.block fbk hfb (fun h => h))).trans f0
                      have f1' := (World.cell?_of_block (a := ⟨fbk, fo + i * 3 + 1, none⟩) (hupr.block fbk hfb (fun h => h))).trans f1
                      have f2' := (World.cell?_of_block (a := ⟨fbk, fo + i * 3 + 2, none⟩) (hupr.block fbk hfb (fun h => h))).trans f2
                      have HFCE := hid (show ∀ V, Upd (fun _ => False) W V → V.cell? ⟨fbk, fo + i * 3, none⟩ = some (.string f.name) ∧ V.cell? ⟨fbk, fo + i * 3 + 1, none⟩ = some (.slice po f.data.length pc) ∧ V.cell? ⟨fbk, fo + i * 3 + 2, none⟩ = some (.int .i64 f.synced) from fun V hV => ⟨(World.cell?_of_block (a := ⟨fbk, fo + i * 3, none⟩) (hV.block fbk hfb (fun h => h))).trans f0, (World.cell?_of_block (a := ⟨fbk, fo + i * 3 + 1, none⟩) (hV.block fbk hfb (fun h => h))).trans f1, (World.cell?_of_block (a := ⟨fbk, fo + i * 3 + 2, none⟩) (hV.block fbk hfb (fun h => h))).trans f2⟩)
                      have hfbr : fbk < wr.heap.size := Nat.lt_of_lt_of_le hfb hupr.size
                      clear f0 f1 f2 hupr hfe hfm hfi hby hblow hfdv
                      go_upto_if 125 with fail
                      go_cut [7] (fun dv wx => ∃ KS2 dsv2, AG W wx fg { s1 with xs := xs, KS := KS2, dsv := dsv2 } ∧ dv = dsv2 ∧ i < KS2.length ∧ KS2.length ≤ 280 ∧ ∀ t, t < i → LentAt KS2 op.files xs t)
                      case first =>
                       as_aux_lemma =>
                        by_cases heq : i = KS.length
                        · have heq1 : ((i : Int) == (KS.length : Int)) = true := by simp [heq]
                          have hu1 : Upd (fun _ => False) wr (wr.alloc (.cells #[.slice none 0 0, .int .i64 0] 73)) := (Upd.refl _ _).alloc _
                          have hk : DK.In (wr.alloc (.cells #[.slice none 0 0, .int .i64 0] 73)) ⟨wr.heap.size, .slice none 0 0, [], 0⟩ := ⟨heap_alloc_new wr _, .inl ⟨rfl, rfl⟩, (fun e => nomatch e), by simp, by simp⟩
                          have hkn : ∀ q, DK.own ⟨wr.heap.size, .slice none 0 0, [], 0⟩ q → wr.heap.size ≤ q := fun q hq => hq.elim (fun e => by have e' : q = wr.heap.size := e; omega) (fun e => nomatch e)
                          obtain ⟨v', w', hrun, hrow, hu2, hat⟩ := run_append_desk1 (a := .pointer (some ⟨wr.heap.size, 0, none⟩)) (owns_upd HAGB.out.row hu1 (fun _ _ h => h)) (by show KS.length ≤ _; omega) rfl 74
                          have hgrow := HAGB.out.grow hu1 hk hkn hrow hu2 hat
                          rw [show (wr.alloc (.cells #[.slice none 0 0, .int .i64 0] 73)).heap.size = wr.heap.size + 1 from by simp] at hrun
                          have HGROW := hid hgrow; have HRUN := hid hrun
                          clear hu1 hk hkn hrun hrow hu2 hat hgrow b8 bl f0' f1' f2'
                          obtain ⟨n7, hn7⟩ : ∃ n7, n7 = KS.length := ⟨_, rfl⟩
                          rw [← hn7] at HRUN heq1 ⊢
                          have HEQ := hid heq
                          clear hn7 heq hiK hK280
                          go_wp2_with (at_builtin; refine wpList_append_run rfl _ _ _ rfl rfl rfl HRUN.out ?_)
                          go_meet
                          case rel => exact ⟨_, _, HGROW.out, rfl, by have := HEQ.out; simp; omega, by have := HEQ.out; simp; omega, fun t ht => (HLE.out t ht).grow _⟩
                        · have heq1 : ((i : Int) == (KS.length : Int)) = false := by simp; omega
                          go_wp2
                          go_meet
                          case rel => exact ⟨KS, _, HAGB.out, rfl, by omega, hK280, HLE.out⟩
                      case rest =>
                       obtain ⟨KS2, dsv2, hag2, hdve2, hiK2, hK2, hlent2⟩ := hcut
                       obtain ⟨g8, c8, hdsv2, hc81, hc82⟩ : ∃ g8 c8, dsv2 = .slice (some ⟨g8, 0, none⟩) KS2.length c8 ∧ KS2.length ≤ c8 ∧ c8 ≤ 9223372036854775807 := owns_slice hag2.row (by show 0 < KS2.length; omega)
                       subst hdsv2
                       subst hdve2
                       obtain ⟨kp, hkp⟩ : ∃ kp, KS2[i].p = kp := ⟨_, rfl⟩
                       obtain ⟨d7, d7l⟩ := hag2.at_k (k := i) rfl hiK2 hkp
                       obtain ⟨s0, s1', s2'⟩ := HFCE.out wc hag2.upd
                       clear b8 bl f0' f1' f2' hfbr
                       have b8 := hag2.at_b (i := 8) HBX1.out rfl
                       have bl := hag2.at_bl HBX1.out
                       have hfbr : fbk < wc.heap.size := World.block_lt_of_cell? _ _ s0
                       have HAG2 := hid hag2; have HLE2 := hid hlent2
                       have HLND := hid (show ∀ V, Upd (fun _ => False) wc V → Calls Tryz.prog 28 #[.pointer (some ⟨kp, 0, none⟩), .slice po f.data.length pc] V fun e V' => ∃ K' g c, e = .returned (.slice (some ⟨g, 0, none⟩) f.data.length c) ∧ AG W V' fg { s1 with xs := xs, KS := KS2.set i K', dsv := .slice (some ⟨g8, 0, none⟩) KS2.length c8 } ∧ K'.p = kp ∧ K'.Lent f.data ∧ K'.rv = .slice (some ⟨g, 0, none⟩) K'.bs.length c from fun V hV => by
                         have h := (HAG2.out.keep hV).klend (i := i) hiK2 HBY.out HBLOW.out hbfew
                         rw [show ({ s1 with xs := xs, KS := KS2, dsv := .slice (some ⟨g8, 0, none⟩) KS2.length c8 } : AS).KS[i].p = kp from hkp] at h
                         exact h)
                       have HKC := hid (show ∀ V K', AG W V fg { s1 with xs := xs, KS := KS2.set i K', dsv := .slice (some ⟨g8, 0, none⟩) KS2.length c8 } → K'.p = kp → V.cell? ⟨g8, i, none⟩ = some (.pointer (some ⟨kp, 0, none⟩)) from fun V K' h e => (h.at_k (k := i) rfl (by simpa using hiK2) (p := kp) (by simpa using e)).1)
                       have HXL2 := hid (show xs.length = 1800 from hag2.xsl)
                       have hdr0 := hid (show Upd (fun _ => False) wc wc.drew from (Upd.refl _ wc).drew)
                       have hi6 : i < 600 := by omega
                       have hi6i : (i : Int) < 600 := by omega
                       have hiKi : (i : Int) < (KS2.length : Int) := by omega
                       have hifl : (i : Int) < (fl : Int) := by omega
                       clear hag2 hlent2 hkp
                       as_aux_lemma =>
                        go_upto_region 32 with fail
                        go_region_held3 (fun V => V.cell? ⟨fb, 8, none⟩ = some (.slice (some ⟨fbk, fo, none⟩) fl fc) ∧ V.cell? ⟨fbk, fo + i * 3, none⟩ = some (.string f.name) ∧ V.cell? ⟨fbk, fo + i * 3 + 1, none⟩ = some (.slice po f.data.length pc) ∧ V.cell? ⟨fbk, fo + i * 3 + 2, none⟩ = some (.int .i64 f.synced) ∧ V.cell? ⟨g8, i, none⟩ = some (.pointer (some ⟨kp, 0, none⟩)))
                          (first | go_keep | exact ⟨hlg.out.at_b (i := 8) HBX1.out rfl, (HFCE.out _ hlg.out.upd).1, (HFCE.out _ hlg.out.upd).2.1, (HFCE.out _ hlg.out.upd).2.2, HKC.out _ _ hlg.out hKp⟩ | exact ⟨(hlg.out.store hi6 _ _ _).at_b (i := 8) HBX1.out rfl, (HFCE.out _ (hlg.out.store hi6 _ _ _).upd).1, (HFCE.out _ (hlg.out.store hi6 _ _ _).upd).2.1, (HFCE.out _ (hlg.out.store hi6 _ _ _).upd).2.2, ((hlg.out.store hi6 _ _ _).at_k (k := i) rfl (by simpa using hiK2) (p := kp) (by simpa using hKp)).1⟩)
                          (first
                            | (go_at_call 28; refine (HLND.out _ hdr0.out).mono ?_; rintro e w3 ⟨K', g, c, rfl, h1, hKp, h2, h3⟩; obtain ⟨⟨o1, z1⟩, z2, ⟨o2, z3⟩, z4, ⟨o3, z5⟩, z6, z7⟩ := h1.room3 hi6 (.string f.name) (.slice (some ⟨g, 0, none⟩) f.data.length c); have hlg := hid h1; have hlt2 := hid h2; have hrv2 := hid h3; clear h1 h2 h3)
                            | fail)
                        all_goals
                          have HFIN := hid (hlg.out.store hi6 (.string f.name) (.slice (some ⟨g, 0, none⟩) f.data.length c) (.int .i64 f.synced))
                          clear z1 z2 z3 z4 z5 z6 z7 b8 bl s0 s1' s2' d7 d7l hfbr
                          go_wp2
                          go_roundw
                          case rel => exact ⟨i + 1, by omega, by go_num, _, _, _, HFIN.out, rfl, by simp; omega, by simpa using hK2, fun t ht => by
                            by_cases e : t = i
                            · subst e; exact ⟨K', f, g, c, by simp [hiK2], HFI.out, hlt2.out, hrv2.out, row3_at HXL2.out hi6 _ _ _⟩
                            · exact (HLE2.out t (by omega)).other e K' _ _ _, fun t h1 h2 => row3_ne (by omega) _ _ _ (HBH.out t (by omega) h2)⟩
                          case measure => simp [intOf]; omega
                    · have HI := hid (show i = fl by omega)
                      have hnlt : ¬ (i : Int) < (fl : Int) := by omega
                      have hlall : ∀ t, t < op.files.length → LentAt KS op.files xs t := fun t ht => HLE.out t (by rw [HI.out]; rw [HFL.out] at ht; exact ht)
                      obtain ⟨l', hfin, hcore⟩ := HAGB.out.loadIn (files := op.files) (by rw [HFL.out]; exact hfl6) hlall
                      rw [HFL.out] at hfin
                      have HLOAD := hid (show ∀ V, Upd (fun _ => False) wr V → Calls Tryz.prog 32 #[.int .i64 op.n, .slice (some ⟨fg, 0, none⟩) fl 600] V fun e V' => LoadRes V op.n (loadA op.n l') e V' from fun V hV => load_any (hfin.keep hV))
                      have hdr0 := hid (show Upd (fun _ => False) wr wr.drew from (Upd.refl _ wr).drew)
                      have HCORE := hid hcore; have HLALL := hid hlall
                      have b6 := HAGB.out.at_b (i := 6) HBX1.out rfl
                      have hfl6' : (fl : Int) ≤ 600 := by omega
                      clear hlt hi hlall hfin hcore hiK
                      go_upto_region 33 with fail
                      go_region_held3 (fun V => V.cell? ⟨fb, 6, none⟩ = some (.int .i64 op.n) ∧ V.cell? ⟨fb, 8, none⟩ = some (.slice fa fl fc))
                        (first | go_keep | exact ⟨(HAGB.out.keep (hdr0.out.trans hres.out.1 (fun _ _ h => h))).at_b (i := 6) HBX1.out rfl, (HAGB.out.keep (hdr0.out.trans hres.out.1 (fun _ _ h => h))).at_b (i := 8) HBX1.out rfl⟩)
                        (first
                          | (go_at_call 32; refine (HLOAD.out _ hdr0.out).mono ?_; rintro e w4 hres0; obtain ⟨x4, c4, rfl⟩ := hres0.split; have hres := hid hres0; clear hres0)
                          | fail)
                      all_goals
                       have hAG3 := HAGB.out.keep hdr0.out
                       have hlds := hAG3.loads (hAG3.won HONQ.out rfl) hres.out HCORE.out HOK.out
                       have hAG4 := hAG3.keep hres.out.1
                       rw [HCL.out, show ({ s1 with xs := xs, KS := KS, dsv := .slice g7 KS.length c7 } : AS).S.p = P from HP1.out] at hlds
                       clear b6 b8 bl
                       have b0 := hAG4.at_b (i := 0) HBX1.out rfl
                       have b1 := hAG4.at_b (i := 1) HBX1.out rfl
                       have b2 := hAG4.at_b (i := 2) HBX1.out rfl
                       have b3 := hAG4.at_b (i := 3) HBX1.out rfl
                       have b4 := hAG4.at_b (i := 4) HBX1.out rfl
                       have b5 := hAG4.at_b (i := 5) HBX1.out rfl
                       have b6 := hAG4.at_b (i := 6) HBX1.out rfl
                       have b7 := hAG4.at_b (i := 7) HBX1.out rfl
                       have b8 := hAG4.at_b (i := 8) HBX1.out rfl
                       have bl := hAG4.at_bl HBX1.out
                       have HLDS := hid hlds
                       clear hres hAG3 hAG4 hlds
                       go_wp2_with fail
                       refine HLDS.out.mono ?_
                       rintro e w5 ⟨rfl, S5, h1, h2, h3, h4, h5⟩
                       have HAG5 := hid h1; have HON5 := hid h2; have HP5 := hid h3; have HLE5 := hid h4; have HBN5 := hid h5
                       clear h1 h2 h3 h4 h5 b0 b1 b2 b3 b4 b5 b6 b7 b8 bl
                       go_wp2
                       go_loopw [18, 12] (fun c okv wr => ∃ i : Nat, i ≤ 600 ∧ c = .int .i64 i ∧ okv = .bool true ∧ ∃ KS', AG W wr fg { s1 with xs := xs, KS := KS', dsv := .slice g7 KS.length c7, S := S5 } ∧ KS'.length = KS.length ∧ ∀ t, i ≤ t → t < fl → LentAt KS' op.files xs t) (fun c _ _ => 600 - (intOf c).toNat)
                       case atStart => exact ⟨0, by omega, rfl, rfl, KS, HAG5.out, rfl, fun t _ ht => HLALL.out t (by rw [HFL.out]; exact ht)⟩
                       case round =>
                        obtain ⟨i2, hi2, rfl, rfl, KS', hag, hkl, hlent⟩ := hrel
                        have HAGC := hid hag; have HLE := hid hlent; have HKL := hid hkl
                        have b8 := hag.at_b (i := 8) HBX1.out rfl
                        have bl := hag.at_bl HBX1.out
                        clear hag hlent hkl
                        by_cases hlt6 : i2 < 600
                        · have hlt6i : (i2 : Int) < 600 := by omega
                          by_cases hlt : i2 < fl
                          · as_aux_lemma =>
                             have hlti : (i2 : Int) < (fl : Int) := by omega
                             obtain ⟨K, f, g, c, h1, h2, h3, h4, r1, r2, r3⟩ := HLE.out i2 (Nat.le_refl _) hlt
                             obtain ⟨hiK, hKe⟩ : ∃ hiK : i2 < KS'.length, KS'[i2] = K := by
                               by_cases hiK : i2 < KS'.length
                               · rw [List.getElem?_eq_getElem hiK] at h1
                                 exact ⟨hiK, Option.some.inj h1⟩
                               · rw [List.getElem?_eq_none (by omega)] at h1; cases h1
                             obtain ⟨fbk, fo, rfl, hfb, f0, f1, f2⟩ := HFC.out i2 (by rw [HFL.out]; exact hlt)
                             have hfe : op.files[i2]'(by rw [HFL.out]; exact hlt) = f := by
                               rw [List.getElem?_eq_getElem (by rw [HFL.out]; exact hlt)] at h2
                               exact Option.some.inj h2
                             rw [hfe] at f0 f1 f2
                             have hfm : f ∈ op.files := by rw [← hfe]; exact List.getElem_mem _
                             have hby := HOK.out.ok.files.bytes f hfm
                             have hblow := HOK.out.ok.files.low f hfm
                             obtain ⟨po, pc, hfdv, -, -⟩ := id hby
                             rw [hfdv] at f1 hby hblow
                             obtain ⟨kp, hkp⟩ : ∃ kp, KS'[i2].p = kp := ⟨_, rfl⟩
                             obtain ⟨g9, c9, hdsv9, -, -⟩ := owns_slice HAGC.out.row (by show 0 < KS'.length; omega)
                             have hdsv9' : Value.slice g7 KS.length c7 = .slice (some ⟨g9, 0, none⟩) KS'.length c9 := hdsv9
                             injection hdsv9' with e1 e2 e3
                             subst e1 e3
                             clear e2
                             have hiKi : (i2 : Int) < (KS.length : Int) := by have := HKL.out; omega
                             have HCS := hid (show ∀ V, Upd (fun _ => False) wr V → V.cell? ⟨fb, 8, none⟩ = some (.slice (some ⟨fbk, fo, none⟩) fl fc) ∧ V.cell? ⟨fbk, fo + i2 * 3, none⟩ = some (.string f.name) ∧ V.cell? ⟨fbk, fo + i2 * 3 + 1, none⟩ = some (.slice po f.data.length pc) ∧ V.cell? ⟨fbk, fo + i2 * 3 + 2, none⟩ = some (.int .i64 f.synced) ∧ V.cell? ⟨fg, i2 * 3, none⟩ = some (.string f.name) ∧ V.cell? ⟨fg, i2 * 3 + 2, none⟩ = some (.int .i64 f.synced) ∧ V.cell? ⟨g9, i2, none⟩ = some (.pointer (some ⟨kp, 0, none⟩)) from fun V hV => by
                               have h := HAGC.out.keep hV
                               have hW := h.upd
                               exact ⟨h.at_b (i := 8) HBX1.out rfl, (World.cell?_of_block (a := ⟨fbk, fo + i2 * 3, none⟩) (hW.block fbk hfb (fun h => h))).trans f0, (World.cell?_of_block (a := ⟨fbk, fo + i2 * 3 + 1, none⟩) (hW.block fbk hfb (fun h => h))).trans f1, (World.cell?_of_block (a := ⟨fbk, fo + i2 * 3 + 2, none⟩) (hW.block fbk hfb (fun h => h))).trans f2, (h.at_f r1).1, (h.at_f r3).1, (h.at_k (k := i2) rfl hiK hkp).1⟩)
                             have HBCK := hid (show ∀ V, Upd (fun _ => False) wr V → Calls Tryz.prog 30 #[.pointer (some ⟨kp, 0, none⟩), .slice po f.data.length pc] V fun e V' => e = .returned (.bool true) ∧ Upd (fun _ => False) V V' from fun V hV => by
                               have h := (HAGC.out.keep hV).kback (i := i2) hiK hby hblow (by show KS'[i2].Lent f.data; rw [hKe]; exact h3)
                               rw [show ({ s1 with xs := xs, KS := KS', dsv := .slice (some ⟨g9, 0, none⟩) KS.length c7, S := S5 } : AS).KS[i2].p = kp from hkp] at h
                               refine h.mono ?_
                               rintro e V' ⟨h1, -, h2⟩
                               exact ⟨h1, h2⟩)
                             have HWIP := hid (show ∀ V, Upd (fun _ => False) wr V → Calls Tryz.prog 31 #[.pointer (some ⟨kp, 0, none⟩)] V fun e V' => e = .returned (.tuple #[]) ∧ ∃ K', AG W V' fg { s1 with xs := xs, KS := KS'.set i2 K', dsv := .slice (some ⟨g9, 0, none⟩) KS.length c7, S := S5 } from fun V hV => by
                               have h := (HAGC.out.keep hV).kwipe (i := i2) hiK
                               rw [show ({ s1 with xs := xs, KS := KS', dsv := .slice (some ⟨g9, 0, none⟩) KS.length c7, S := S5 } : AS).KS[i2].p = kp from hkp] at h
                               refine h.mono ?_
                               rintro e V' ⟨h1, K', h2, -⟩
                               exact ⟨h1, K', h2⟩)
                             obtain ⟨q0, q1, q2, q3, q4, q5, q6⟩ := HCS.out wr (Upd.refl _ _)
                             have hfgl := World.block_lt_of_cell? _ _ q4
                             have hfbl := World.block_lt_of_cell? _ _ q1
                             have hg9l := World.block_lt_of_cell? _ _ q6
                             have hdr0 := hid (show Upd (fun _ => False) wr wr.drew from (Upd.refl _ wr).drew)
                             clear b8 h1 h2 h3 h4 r1 r2 r3 hKe f0 f1 f2 hfe hfm hby hblow hfdv hkp hdsv9
                             go_upto_region 39 with fail
                             go_region_held3 (fun V => V.cell? ⟨fb, 8, none⟩ = some (.slice (some ⟨fbk, fo, none⟩) fl fc) ∧ V.cell? ⟨fbk, fo + i2 * 3, none⟩ = some (.string f.name) ∧ V.cell? ⟨fbk, fo + i2 * 3 + 1, none⟩ = some (.slice po f.data.length pc) ∧ V.cell? ⟨fbk, fo + i2 * 3 + 2, none⟩ = some (.int .i64 f.synced) ∧ V.cell? ⟨fg, i2 * 3, none⟩ = some (.string f.name) ∧ V.cell? ⟨fg, i2 * 3 + 2, none⟩ = some (.int .i64 f.synced) ∧ V.cell? ⟨g9, i2, none⟩ = some (.pointer (some ⟨kp, 0, none⟩)))
                               (first | go_keep | exact HCS.out _ hub2.out)
                               (first
                                 | (go_at_call 30; refine (HBCK.out _ hdr0.out).mono ?_; rintro e w6 ⟨rfl, h1⟩; have hub2 := hid (show Upd (fun _ => False) wr w6 from hdr0.out.trans h1 (fun _ _ h => h)); clear h1)
                                 | fail)
                             all_goals
                               have HWP := hid (HWIP.out _ hub2.out)
                               obtain ⟨-, -, -, -, -, -, q6'⟩ := HCS.out _ hub2.out
                               have hg9l' := World.block_lt_of_cell? _ _ q6'
                               clear q0 q1 q2 q3 q4 q5 q6 hfgl hfbl hg9l
                               go_wp2_with fail
                               refine HWP.out.mono ?_
                               rintro e w7 ⟨rfl, K', h1⟩
                               have HF := hid h1
                               clear h1 q6' hg9l'
                               go_wp2
                               go_roundw
                               case rel => exact ⟨i2 + 1, by omega, by go_num, rfl, _, HF.out, by simpa using HKL.out, fun t h1 h2 => (HLE.out t (by omega) h2).other' (by omega) K'⟩
                               case measure => simp [intOf]; omega
                          · as_aux_lemma =>
                             have hlti : ¬ (i2 : Int) < (fl : Int) := by omega
                             have hbx : BehindAt xs i2 := HBH.out i2 (by rw [HI.out]; omega) hlt6
                             obtain ⟨r1, r2, r3⟩ := hbx
                             have q4 := (HAGC.out.at_f r1).1
                             have q5 := (HAGC.out.at_f r2).1
                             have q6 := (HAGC.out.at_f r3).1
                             have hfgl := World.block_lt_of_cell? _ _ q4
                             unfold behindB at q4
                             clear r1 r2 r3
                             go_wp2
                             go_roundw
                             case rel => exact ⟨i2 + 1, by omega, by go_num, rfl, _, HAGC.out, HKL.out, fun t h1 h2 => HLE.out t (by omega) h2⟩
                             case measure => simp [intOf]; omega
                        · have hlt6i : ¬ (i2 : Int) < 600 := by omega
                          go_wp2
                          go_meet
                          case rel => exact ⟨{ s1 with xs := xs, KS := KS', dsv := .slice g7 KS.length c7, S := S5 }, HAGC.out, HAGC.out.won HON5.out rfl, HP5.out, HD1.out, rfl, rfl, by have h1 := HLE5.out; have h2 := HLL.out; show L ≤ S5.ds.length; omega, by have h1 := HBN5.out; have h2 := HMS.out; show S5.b.n ≤ _; omega, by show KS'.length ≤ 280; rw [HKL.out]; omega⟩
            · have e1 : (op.kind == 2) = false := by simpa using hk2
              have e2 : (op.kind == 18) = false := by simpa using hk18
              clear hk2 hk18
              as_aux_lemma =>
              have hpl := HAGQ.out.plays HONQ.out HOK.out (by have := HLL.out; omega) (by have h1 := HMS.out; have h2 := mostN_take l (k + 1); have h3 := HMO.out; omega)
              rw [HCL.out, HP1.out] at hpl
              have HPL := hid hpl
              clear hpl
              go_wp2_with fail
              refine HPL.out.mono ?_
              rintro e w3 ⟨rfl, S', q1, q2, q3, q4, q5⟩
              have HF := hid (show ∃ s2 : AS, AG W w3 fg s2 ∧ WOn W w3 s2.S ∧ s2.S.p = P ∧ s2.D.p = pd ∧ Value.slice dsa m dsc = s2.dsv ∧ L ≤ s2.S.ds.length ∧ s2.S.b.n ≤ 1073741824 + (mostN (l.take (k + 1)) : Int) * 268435456 ∧ s2.KS.length ≤ 280 from ⟨_, q1, q2, q3, HD1.out, HDV1.out.symm, by rw [HLL.out]; exact q4, by have h1 := HMS.out; show S'.b.n ≤ _; omega, HK280.out⟩)
              clear q1 q2 q3 q4 q5
              go_wp2
              go_meet
              case rel =>
                obtain ⟨s2, r1, r2, r3, r4, r5, r6, r7, r8⟩ := HF.out
                exact ⟨s2, r1, r2, r3, r4, r5, rfl, r6, r7, r8⟩
        case rest =>
         as_aux_lemma =>
          obtain ⟨s2, hag2, hon2, hp2, hd2, rfl, rfl, hL2, hbn3, hk2⟩ := hcut
          have hlen2 := hag2.mem.len
          obtain ⟨gd2, dc2, hdv2, hdd1, hdd2⟩ := owns_slice hag2.mem.rowD (by omega)
          obtain ⟨gr2, rc2, hrv2, hrr1, hrr2⟩ := owns_slice hag2.mem.rowR (by omega)
          rw [hlen2] at hrv2 hrr1
          obtain ⟨hjd, hjr⟩ : j < s2.S.ds.length ∧ j < s2.S.rs.length := by omega
          obtain ⟨n2, hn2⟩ : ∃ n2, n2 = s2.S.ds.length := ⟨_, rfl⟩
          rw [← hn2] at hdv2 hrv2 hdd1 hrr1
          have hjn : j < n2 := by omega
          have hfew2 := hon2.few
          obtain ⟨dp, hdp⟩ : ∃ dp, s2.S.ds[j].p = dp := ⟨_, rfl⟩
          obtain ⟨rp, hrp⟩ : ∃ rp, s2.S.rs[j].p = rp := ⟨_, rfl⟩
          obtain ⟨fl2, hfl2⟩ : ∃ fl2, fileList s2.S.ds[j] = fl2 := ⟨_, rfl⟩
          obtain ⟨c0, c1, hPl⟩ := hag2.at_p hdv2 hrv2
          rw [hp2] at c0 c1 hPl
          obtain ⟨c2, hgl⟩ := hag2.at_d hdv2 hjd hdp
          obtain ⟨c3, hgrl⟩ := hag2.at_r hrv2 hjr hrp
          obtain ⟨hf1, hf2⟩ := AG.files2 hon2 hjd hjr
          rw [hdp, hfl2] at hf1
          rw [hrp, hfl2] at hf2
          have HF1 := hid hf1; have HF2 := hid hf2; have HAG2 := hid hag2; have HON2 := hid hon2; have HP2 := hid hp2; have HD2 := hid hd2
          have HL2 := hid (show 0 < s2.S.ds.length by omega)
          have HBN3 := hid hbn3; have HK2 := hid hk2
          obtain ⟨dsa2, dsc2, hdsv2, -, -⟩ := owns_shape hag2.row
          have HDSV2 := hid hdsv2
          rw [hdsv2]
          have HF6 := hid (show ∀ V v1 v2 l1 l2 b1 b2, FilesAt V b1 v1 l1 → FilesAt V b2 v2 l2 → l1.map FV.abs = l2.map FV.abs → Calls Tryz.prog 17 #[v1, v2] V fun e V' => e = .returned (.bool true) ∧ Upd (fun _ => False) V V' from fun V v1 v2 l1 l2 b1 b2 h1 h2 h3 => by
            refine (sameFiles_any h1 h2).mono ?_
            rintro e V' ⟨b, rfl, hb, hu⟩
            exact ⟨by rw [hb.2 h3], hu⟩)
          have hdr0 := hid (show Upd (fun _ => False) wc wc.drew from (Upd.refl _ wc).drew)
          have hn5 : n2 ≤ 5 := by omega
          have HAGX := HAGQ
          clear hk2 HK280 HAGQ HONQ HDV HRV HP1 HD1 HDV1 HKS1 HBX1 HLL HAGX hag2 hon2 hp2 hd2 hL2 hbn3 hlen2 hdv2 hrv2 hn2 hfew2 hdp hrp hfl2 hf1 hf2 hdsv2 p0 p1 pl b0 b1 b2 b3 b4 b5 b6 b7 b8 bl hjd hjr
          go_upto_region 42 with fail
          go_region_held3 (fun V => V.cell? ⟨P, 0, none⟩ = some (.slice (some ⟨gd2, 0, none⟩) n2 dc2) ∧ V.cell? ⟨P, 1, none⟩ = some (.slice (some ⟨gr2, 0, none⟩) n2 rc2) ∧ V.cell? ⟨gd2, j, none⟩ = some (.pointer (some ⟨dp, 0, none⟩)) ∧ V.cell? ⟨gr2, j, none⟩ = some (.pointer (some ⟨rp, 0, none⟩)))
            (first
              | go_keep
              | (go_split_ands
                 refine ⟨?_, ?_, ?_, ?_⟩
                 · (first | (rw [World.cell?_of_block (w := wc) (a := ⟨P, 0, none⟩) (hua.out.block P hPl (fun h => h))]; assumption) | (rw [World.cell?_of_block (w := wc) (a := ⟨P, 0, none⟩) (hub.out.block P hPl (fun h => h))]; assumption) | (rw [World.cell?_of_block (w := wc) (a := ⟨P, 0, none⟩) (huc.out.block P hPl (fun h => h))]; assumption))
                 · (first | (rw [World.cell?_of_block (w := wc) (a := ⟨P, 1, none⟩) (hua.out.block P hPl (fun h => h))]; assumption) | (rw [World.cell?_of_block (w := wc) (a := ⟨P, 1, none⟩) (hub.out.block P hPl (fun h => h))]; assumption) | (rw [World.cell?_of_block (w := wc) (a := ⟨P, 1, none⟩) (huc.out.block P hPl (fun h => h))]; assumption))
                 · (first | (rw [World.cell?_of_block (w := wc) (a := ⟨gd2, j, none⟩) (hua.out.block gd2 hgl (fun h => h))]; assumption) | (rw [World.cell?_of_block (w := wc) (a := ⟨gd2, j, none⟩) (hub.out.block gd2 hgl (fun h => h))]; assumption) | (rw [World.cell?_of_block (w := wc) (a := ⟨gd2, j, none⟩) (huc.out.block gd2 hgl (fun h => h))]; assumption))
                 · (first | (rw [World.cell?_of_block (w := wc) (a := ⟨gr2, j, none⟩) (hua.out.block gr2 hgrl (fun h => h))]; assumption) | (rw [World.cell?_of_block (w := wc) (a := ⟨gr2, j, none⟩) (hub.out.block gr2 hgrl (fun h => h))]; assumption) | (rw [World.cell?_of_block (w := wc) (a := ⟨gr2, j, none⟩) (huc.out.block gr2 hgrl (fun h => h))]; assumption))))
            (first
              | (go_at_call 16; refine (HF1.out _ (by first | exact hub.out | exact hdr0.out)).mono ?_; rintro e wa ⟨va, la, rfl, hfa, hla, h0a⟩; have hua := hid (show Upd (fun _ => False) wc wa by first | exact hub.out.trans h0a (fun _ _ h => h) | exact hdr0.out.trans h0a (fun _ _ h => h)))
              | (go_at_call 18; refine (HF2.out _ (by first | exact hua.out | exact hdr0.out)).mono ?_; rintro e wb ⟨vb, lb, rfl, hfb, hlb, h0b⟩; have hub := hid (show Upd (fun _ => False) wc wb by first | exact hua.out.trans h0b (fun _ _ h => h) | exact hdr0.out.trans h0b (fun _ _ h => h)))
              | (go_at_call 17; refine (HF6.out _ _ _ _ _ _ _ (by first | exact hfa | exact hfa.upd h0b (fun _ _ h => h)) (by first | exact hfb | exact hfb.upd h0a (fun _ _ h => h)) (hla.trans hlb.symm)).mono ?_; rintro e wd ⟨rfl, h0c⟩; have huc := hid (show Upd (fun _ => False) wc wd by first | exact hub.out.trans h0c (fun _ _ h => h) | exact hua.out.trans h0c (fun _ _ h => h)))
              | fail)
          all_goals
            have HAG3 := hid (HAG2.out.keep huc.out)
            have HON3 := hid (HON2.out.keep huc.out)
            clear hfa hfb h0a h0b h0c hla hlb c0 c1 c2 c3
            go_wp2
            go_roundw
            case rel => exact ⟨k + 1, by omega, by go_num, s2, HAG3.out, HON3.out, HP2.out, HD2.out, HDSV2.out.symm, HL2.out, HBN3.out, HK2.out⟩
            case measure => simp [intOf]; omega
    · obtain rfl : k = l.length := by omega
      obtain ⟨dsa, dsc, hdsv, -, -⟩ := owns_shape HAG.out.row
      rw [hdsv]
      clear hdsv
      go_wp2
      go_ret
      exact ⟨by first | rfl | simp, HAG.out.upd.below (Nat.le_refl _) (fun _ h => h.elim)⟩

end Go.Proofs.YtohpgmeflmppaaaGreat
