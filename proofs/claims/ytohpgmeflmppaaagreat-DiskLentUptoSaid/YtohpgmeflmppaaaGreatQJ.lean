/-
  DiskLent, walked.
-/
import Derived.Test.YtohpgmeflmppaaaGreatQI
import Derived.Test.YtohpgmeflmppaaaGreatPG
import Derived.Test.YtohpgmeflmppaaaGreatGS
import Derived.Deep.DeepCutAuto
import Derived.StillTailTactics
namespace Go.Proofs.YtohpgmeflmppaaaGreat
set_option linter.unusedVariables false
set_option linter.unusedSimpArgs false
set_option linter.unnecessarySimpa false
set_option linter.unusedSectionVars false
open Go Go.RowKit

theorem KP.In.empty {D R E : TypeId} {z : Nat} {w : World} {p : Nat} (h : w.heap[p]? = some (.cells #[.slice none 0 0, .slice none 0 0] D (0, 0))) : KP.In D R E z w ⟨p, .slice none 0 0, .slice none 0 0, []⟩ := by
  refine ⟨h, SRow.nil _ _ _, SRow.nil _ _ _, fun i hi => absurd hi (by simp), fun i hi => absurd hi (by simp), fun i hi => absurd hi (by simp), ⟨fun _ => 0, fun L q hq => ?_⟩⟩
  rcases hq with ⟨rfl, _⟩ | ⟨_, e⟩ | ⟨_, e⟩ | ⟨i, hi, _⟩
  · rfl
  · cases e
  · cases e
  · exact absurd hi (by simp)

theorem KP.empty_own {p q : Nat} (h : KP.own ⟨p, .slice none 0 0, .slice none 0 0, []⟩ q) : q = p := by
  obtain ⟨L, ⟨_, e⟩ | ⟨_, e⟩ | ⟨_, e⟩ | ⟨i, hi, _⟩⟩ := h
  · exact e
  · cases e
  · cases e
  · exact absurd hi (by simp)

/-- Ahead of the loop. -/
theorem LI.start {W w1 : World} {S : WS} (hon : WOn W w1 S) {P : Nat} (hP : P = S.p) (hbn : S.b.n ≤ 1073741824) :
    LI W (((w1.alloc (.cells #[.slice none 0 0, .slice none 0 0] 29)).alloc (.cells #[.slice none 0 0, .slice none 0 0] 33)).alloc (.cells #[.slice none 0 0, .slice none 0 0] 37)) P w1.heap.size (w1.heap.size + 1) (w1.heap.size + 2) 0 1073741824
      ⟨S, ⟨w1.heap.size, .slice none 0 0, .slice none 0 0, []⟩, ⟨w1.heap.size + 1, .slice none 0 0, .slice none 0 0, []⟩, ⟨w1.heap.size + 2, .slice none 0 0, .slice none 0 0, []⟩, none⟩ := by
  obtain ⟨wa, hwa⟩ : ∃ wa, wa = w1.alloc (.cells #[.slice none 0 0, .slice none 0 0] 29) := ⟨_, rfl⟩
  obtain ⟨wb, hwb⟩ : ∃ wb, wb = wa.alloc (.cells #[.slice none 0 0, .slice none 0 0] 33) := ⟨_, rfl⟩
  obtain ⟨wc, hwc⟩ : ∃ wc, wc = wb.alloc (.cells #[.slice none 0 0, .slice none 0 0] 37) := ⟨_, rfl⟩
  rw [← hwa, ← hwb, ← hwc]
  have sa : wa.heap.size = w1.heap.size + 1 := by rw [hwa]; simp
  have sb : wb.heap.size = w1.heap.size + 2 := by rw [hwb]; simp [sa]
  have sc : wc.heap.size = w1.heap.size + 3 := by rw [hwc]; simp [sb]
  have ba : wa.heap[w1.heap.size]? = some (.cells #[.slice none 0 0, .slice none 0 0] 29 (0, 0)) := by rw [hwa]; exact heap_alloc_new w1 _
  have bb : wb.heap[w1.heap.size + 1]? = some (.cells #[.slice none 0 0, .slice none 0 0] 33 (0, 0)) := by rw [hwb, ← sa]; exact heap_alloc_new wa _
  have bc : wc.heap[w1.heap.size + 2]? = some (.cells #[.slice none 0 0, .slice none 0 0] 37 (0, 0)) := by rw [hwc, ← sb]; exact heap_alloc_new wb _
  have ub : Upd (fun _ => False) wa wb := by rw [hwb]; exact (Upd.refl _ _).alloc _
  have uc : Upd (fun _ => False) wb wc := by rw [hwc]; exact (Upd.refl _ _).alloc _
  have u1 : Upd (fun _ => False) w1 wc := ((by rw [hwa]; exact (Upd.refl (fun _ => False) w1).alloc _ : Upd (fun _ => False) w1 wa).trans ub (fun _ _ e => e)).trans uc (fun _ _ e => e)
  have h2 := hon.keep u1
  have ba' := (ub.trans uc (fun _ _ e => e)).get ba (fun e => e)
  have bb' := uc.get bb (fun e => e)
  have hFk : (⟨w1.heap.size + 2, .slice none 0 0, .slice none 0 0, []⟩ : KF).kp = ⟨w1.heap.size + 2, .slice none 0 0, .slice none 0 0, []⟩ := rfl
  have hF : KF.In wc ⟨w1.heap.size + 2, .slice none 0 0, .slice none 0 0, []⟩ := ⟨by rw [hFk]; exact KP.In.empty bc, fun i hi => absurd hi (by simp), fun i hi => absurd hi (by simp), fun i hi => absurd hi (by simp), fun i hi => absurd hi (by simp), fun i hi => absurd hi (by simp), ⟨fun _ => 0, fun i hi => absurd hi (by simp)⟩⟩
  have hFo : ∀ q, KF.own ⟨w1.heap.size + 2, .slice none 0 0, .slice none 0 0, []⟩ q → q = w1.heap.size + 2 := fun q e => by
    rcases e with e | ⟨i, hi, _⟩
    · rw [hFk] at e; exact KP.empty_own e
    · exact absurd hi (by simp)
  have hs0 := hon.upd.size
  refine ⟨⟨h2.mem, h2.upd, KP.In.empty ba', KP.In.empty bb', hF, (fun q c e => nomatch e), ⟨⟨fun q => if q < w1.heap.size then 0 else if q = w1.heap.size then 1 else if q = w1.heap.size + 1 then 2 else 3, fun L q hq => ?_⟩, fun L q hq => ?_⟩, fun x hx => absurd hx (by simp), fun x hx => absurd hx (by simp)⟩, h2, hP.symm, rfl, rfl, rfl, Nat.zero_le _, Nat.zero_le _, Nat.zero_le _, hbn⟩
  · show (if q < w1.heap.size then 0 else if q = w1.heap.size then 1 else if q = w1.heap.size + 1 then 2 else 3) = L
    rcases hq with ⟨rfl, L', hq⟩ | ⟨rfl, hq⟩ | ⟨rfl, hq⟩ | ⟨rfl, hq⟩ | ⟨_, c, hq⟩
    · rw [if_pos (hon.mem.lt hq)]
    · have e := KP.empty_own hq
      rw [if_neg (by omega), if_pos e]
    · have e := KP.empty_own hq
      rw [if_neg (by omega), if_neg (by omega), if_pos e]
    · have e := hFo q hq
      rw [if_neg (by omega), if_neg (by omega), if_neg (by omega)]
    · cases hq
  · rcases hq with ⟨rfl, L', hq⟩ | ⟨rfl, hq⟩ | ⟨rfl, hq⟩ | ⟨rfl, hq⟩ | ⟨_, c, hq⟩
    · have h3 := hon.mem.lt hq
      exact ⟨hon.mem.low _ _ hq, by omega⟩
    · have e := KP.empty_own hq
      omega
    · have e := KP.empty_own hq
      omega
    · have e := hFo q hq
      omega
    · cases hq

/-- What one round may add. -/
def roundN : Int := 281543696187392

set_option maxRecDepth 100000 in
set_option maxHeartbeats 12800000 in
theorem diskLent_walk {W : World} {cap : Int} {v : Value} {l : List OpI} (hl : OpsIn W v l) (hlen : l.length ≤ 1048576) :
    Calls Tryz.prog 3 #[.int .i64 cap, v] W fun e W' => e = .returned (.bool true) ∧ Below W.heap.size W W' := by
  obtain ⟨ao, lc, rfl, hl1, hl2, hcells⟩ := hl.shape
  have HL := hid hl; have HCE := hid hcells
  obtain ⟨rm, hrm1, hrm2, hroom⟩ := room_any cap W
  have HROOM := hid hroom
  clear hl hcells hroom
  go_enter Tryz.func3, Tryz.ntmps3
  go_wp2_with fail
  refine HROOM.out.mono ?_
  rintro e w' ⟨rfl, hww⟩
  obtain rfl := hww.symm
  go_wp2_with fail
  refine (started_any W rm (by omega)).mono ?_
  rintro e w1 ⟨S, rfl, hon, hpos, hbn, hcm⟩
  obtain ⟨P, hP⟩ : ∃ P, P = S.p := ⟨_, rfl⟩
  have hst := LI.start hon hP (by omega)
  rw [← hP]
  clear hon hcm hbn hP
  obtain ⟨pb, hpb⟩ : ∃ pb, pb = w1.heap.size := ⟨_, rfl⟩
  obtain ⟨pn, hpn⟩ : ∃ pn, pn = pb + 1 := ⟨_, rfl⟩
  obtain ⟨pf, hpf⟩ : ∃ pf, pf = pb + 2 := ⟨_, rfl⟩
  rw [← hpb, ← hpn, ← hpf] at hst
  have HST := hid hst
  clear hst
  go_wp2
  have e1 : w1.heap.size + 1 = pn := by omega
  have e2 : w1.heap.size + 1 + 1 = pf := by omega
  have e3 : w1.heap.size + 2 = pf := by omega
  try rw [e2]
  try rw [e3]
  try rw [e1]
  try rw [← hpb]
  clear e1 e2 e3 hpb hpn hpf
  generalize (((w1.alloc (.cells #[.slice none 0 0, .slice none 0 0] 29)).alloc (.cells #[.slice none 0 0, .slice none 0 0] 33)).alloc (.cells #[.slice none 0 0, .slice none 0 0] 37)) = w2 at HST ⊢
  go_loopw [9, 10] (fun hv i wr => ∃ k : Nat, k ≤ l.length ∧ k ≤ 120 ∧ i = .int .i64 k ∧ ∃ hd : Int, hv = .int .i64 hd ∧ 0 ≤ hd ∧ hd ≤ 1073741824 ∧ ∃ s : LD, LI W wr P pb pn pf (2 * k) (1073741824 + (k : Int) * roundN) s ∧ 0 < s.S.ds.length) (fun _ i _ => 120 - (intOf i).toNat)
  case atStart => exact ⟨0, Nat.zero_le _, Nat.zero_le _, rfl, 0, rfl, by omega, by omega, _, by simpa using HST.out, hpos⟩
  case round =>
    obtain ⟨k, hk, hk120, rfl, hd, rfl, hd0, hd1, s, hli, hlen1⟩ := hrel
    have HLI := hid hli
    clear hli
    by_cases hgo : k < l.length ∧ k < 120 ∧ hd < 8388608
    · obtain ⟨hgo1, hgo2, hgo3⟩ := hgo
      obtain ⟨b, o, rfl, hb, c0, c1, c2, c3, c4, c5, c6, c7, c8⟩ := HCE.out k hgo1
      have hup := HLI.out.al.upd
      obtain ⟨op, hop⟩ : ∃ op, op = l[k] := ⟨_, rfl⟩
      rw [← hop] at c0 c1 c2 c3 c4 c5 c6 c7 c8
      have hok : op.Ok2 W := by rw [hop]; exact HL.out.ok _ (List.getElem_mem hgo1)
      have hfew : op.files.length ≤ 1048576 := by rw [hop]; exact HL.out.few _ (List.getElem_mem hgo1)
      obtain ⟨ba, bc, ca, cl, cc, fa, fl, fc, hb1, hc1, hf1⟩ := (OpI.shapes hok.ok).get
      have hcl : op.cells = #[.int .i64 op.kind, .int .i64 op.obj, .string op.name, .string op.dest, .slice ba op.bs.length bc, .int .i64 op.pos, .int .i64 op.n, .slice ca cl cc, .slice fa fl fc] := by unfold OpI.cells; rw [hb1, hc1, hf1]
      rw [hb1] at c4
      rw [hc1] at c7
      rw [hf1] at c8
      have d0 := (World.cell?_of_block (a := ⟨b, o + k * 9, none⟩) (hup.block b hb (fun h => h))).trans c0
      have d1 := (World.cell?_of_block (a := ⟨b, o + k * 9 + 1, none⟩) (hup.block b hb (fun h => h))).trans c1
      have d2 := (World.cell?_of_block (a := ⟨b, o + k * 9 + 2, none⟩) (hup.block b hb (fun h => h))).trans c2
      have d3 := (World.cell?_of_block (a := ⟨b, o + k * 9 + 3, none⟩) (hup.block b hb (fun h => h))).trans c3
      have d4 := (World.cell?_of_block (a := ⟨b, o + k * 9 + 4, none⟩) (hup.block b hb (fun h => h))).trans c4
      have d5 := (World.cell?_of_block (a := ⟨b, o + k * 9 + 5, none⟩) (hup.block b hb (fun h => h))).trans c5
      have d6 := (World.cell?_of_block (a := ⟨b, o + k * 9 + 6, none⟩) (hup.block b hb (fun h => h))).trans c6
      have d7 := (World.cell?_of_block (a := ⟨b, o + k * 9 + 7, none⟩) (hup.block b hb (fun h => h))).trans c7
      have d8 := (World.cell?_of_block (a := ⟨b, o + k * 9 + 8, none⟩) (hup.block b hb (fun h => h))).trans c8
      have hbr : b < wr.heap.size := Nat.lt_of_lt_of_le hb hup.size
      have HOK := hid hok; have HCL := hid hcl; have HFEW := hid hfew
      clear hup hop hok hb1 hc1 hf1 hcl c0 c1 c2 c3 c4 c5 c6 c7 c8 hfew
      go_upto_region 12 with fail
      obtain ⟨wb, hwb⟩ : ∃ wb, wb = wr.alloc (.cells #[.int .i64 op.kind, .int .i64 op.obj, .string op.name, .string op.dest, .slice ba op.bs.length bc, .int .i64 op.pos, .int .i64 op.n, .slice ca cl cc, .slice fa fl fc] 42) := ⟨_, rfl⟩
      rw [← hwb]
      obtain ⟨fb, hfb⟩ : ∃ fb, fb = wr.heap.size := ⟨_, rfl⟩
      rw [← hfb]
      obtain ⟨s1, hli1, hbx1, hL1⟩ : ∃ s1 : LD, LI W wb P pb pn pf (2 * k) (1073741824 + (k : Int) * roundN) s1 ∧ s1.bx = some (fb, #[.int .i64 op.kind, .int .i64 op.obj, .string op.name, .string op.dest, .slice ba op.bs.length bc, .int .i64 op.pos, .int .i64 op.n, .slice ca cl cc, .slice fa fl fc]) ∧ 0 < s1.S.ds.length := by
        have hub : Upd (fun _ => False) wr wb := by rw [hwb]; exact (Upd.refl _ _).alloc _
        have hbx : wb.heap[fb]? = some (.cells #[.int .i64 op.kind, .int .i64 op.obj, .string op.name, .string op.dest, .slice ba op.bs.length bc, .int .i64 op.pos, .int .i64 op.n, .slice ca cl cc, .slice fa fl fc] 42 (0, 0)) := by rw [hwb, hfb]; exact heap_alloc_new wr _
        have h := HLI.out
        exact ⟨{ s with bx := some (fb, #[.int .i64 op.kind, .int .i64 op.obj, .string op.name, .string op.dest, .slice ba op.bs.length bc, .int .i64 op.pos, .int .i64 op.n, .slice ca cl cc, .slice fa fl fc]) }, ⟨h.al.newBox hub (by omega) hbx, h.on.keep hub, h.p, h.bp, h.np, h.fp, h.cb, h.cn, h.cf, h.bn⟩, rfl, hlen1⟩
      have HLI1 := hid hli1; have HBX1 := hid hbx1
      obtain ⟨L, hL⟩ : ∃ L, L = s1.S.ds.length := ⟨_, rfl⟩
      have HLL := hid hL
      have hmem := hli1.al.mem
      obtain ⟨gd, dc, hdv, hdc1, hdc2⟩ := owns_slice hmem.rowD hL1
      obtain ⟨gr, rc, hrv, hrc1, hrc2⟩ := owns_slice hmem.rowR (by rw [hmem.len]; exact hL1)
      rw [hmem.len] at hrv hrc1
      have hL5 : L ≤ 5 := by rw [hL]; exact hli1.on.few
      rw [← hL] at hdv hdc1 hrv hrc1 hL1
      have HDV := hid hdv; have HRV := hid hrv
      obtain ⟨p0, p1, pl⟩ := hli1.al.at_p hdv hrv
      rw [hli1.p] at p0 p1 pl
      have b0 := hli1.al.at_b hbx1 (i := 0) rfl
      have b1 := hli1.al.at_b hbx1 (i := 1) rfl
      have bl := hli1.al.at_bl hbx1
      obtain ⟨x, hx, hx1, hx2⟩ := whose op.obj L hL1
      obtain ⟨j, hj⟩ : ∃ j : Nat, (j : Int) = if x < 0 then x + (L : Int) else x := ⟨(if x < 0 then x + (L : Int) else x).toNat, by split <;> omega⟩
      have hjL : j < L := by split at hj <;> omega
      have HJ := hid hj
      have hne : (L : Int) ≠ 0 := by omega
      clear hwb hfb hli1 hbx1 hL hdv hrv hj HLI d0 d1 d2 d3 d4 d5 d6 d7 d8 hmem hlen1
      go_quiet (fail)
      revert nq
      intro q
      replace p0 : (wb.drewN q).cell? _ = _ := p0
      replace p1 : (wb.drewN q).cell? _ = _ := p1
      replace pl : P < (wb.drewN q).heap.size := pl
      replace b0 : (wb.drewN q).cell? _ = _ := b0
      replace b1 : (wb.drewN q).cell? _ = _ := b1
      replace bl : fb < (wb.drewN q).heap.size := bl
      have HLIQ := hid (HLI1.out.keep ((Upd.refl (fun _ => False) wb).drewN q))
      clear HLI1
      generalize wb.drewN q = wq at *
      go_upto_if 65 with fail
      go_cut [12] (fun v wx => v = .int .i64 (j : Int) ∧ wx = wq)
      case first =>
       as_aux_lemma =>
        by_cases hxn : x < 0
        · have hjx : (j : Int) = x + (L : Int) := by have h := HJ.out; rw [if_pos hxn] at h; exact h
          go_wp2
          go_meet
          case rel => first | exact ⟨rfl, rfl⟩ | exact ⟨by rw [hjx], rfl⟩
        · obtain rfl : x = (j : Int) := by have h := HJ.out; rw [if_neg hxn] at h; exact h.symm
          go_wp2
          go_meet
          case rel => exact ⟨rfl, rfl⟩
      case rest =>
        obtain ⟨rfl, hcw⟩ := hcut
        obtain rfl := hcw.symm
        clear HJ hx hx1 hx2 hcw
        obtain ⟨hjd, hjr⟩ : j < s1.S.ds.length ∧ j < s1.S.rs.length := by
          have h := HLIQ.out.al.mem.len
          have h2 := HLL.out
          omega
        obtain ⟨dp, hdp⟩ : ∃ dp, s1.S.ds[j].p = dp := ⟨_, rfl⟩
        obtain ⟨rp, hrp⟩ : ∃ rp, s1.S.rs[j].p = rp := ⟨_, rfl⟩
        obtain ⟨g2, hgl⟩ := HLIQ.out.al.at_d HDV.out hjd hdp
        obtain ⟨g3, hgrl⟩ := HLIQ.out.al.at_r HRV.out hjr hrp
        have HDP := hid hdp; have HRP := hid hrp
        clear hdp hrp
        go_upto_region 17 with fail
        clear g2 g3 hgl hgrl p0 p1 pl
        iterate 10 (first | go_values | go_skip | go_guarded | go_step | go_upon | go_back | (simp only [Int.not_lt, Int.not_le] at *; go_simp))
        go_cut [9] (fun hv wx => ∃ hd2 : Int, hv = .int .i64 hd2 ∧ 0 ≤ hd2 ∧ hd2 ≤ 1073741824 ∧ ∃ s2 : LD, LI W wx P pb pn pf (2 * k + 2) (1073741824 + (k : Int) * roundN + roundN) s2 ∧ L ≤ s2.S.ds.length)
        case first =>
          by_cases hk6 : op.kind = 6
          · have e1 : (op.kind == 6) = true := by simpa using hk6
            clear hk6
            as_aux_lemma =>
            have hrow2 : (2 * k + 1 : Nat) ≤ 300 := by omega
            go_wp2
            go_loopw [9, 15] (fun hv nv wr => ∃ n : Nat, n ≤ 2 ∧ nv = .int .i64 n ∧ ∃ hd2 : Int, hv = .int .i64 hd2 ∧ 0 ≤ hd2 ∧ hd2 ≤ 8388608 + (n : Int) * 67108864 ∧ ∃ s2 : LD, LI W wr P pb pn pf (2 * k + n) (1073741824 + (k : Int) * roundN) s2 ∧ SameD s1 s2) (fun _ nv _ => 2 - (intOf nv).toNat)
            case atStart => exact ⟨0, by omega, rfl, hd, rfl, hd0, by omega, s1, HLIQ.out, SameD.refl _⟩
            case round =>
              clear b0 b1 bl
              obtain ⟨n, hn, rfl, hd2, rfl, hd20, hd21, s2, hli2, hsd⟩ := hrel
              have HLI2 := hid hli2; have HSD := hid hsd
              by_cases hlt : n < 2
              · have hjd2 : j < s2.S.ds.length := by rw [hsd.len]; exact hjd
                have hjr2 : j < s2.S.rs.length := by rw [hli2.al.mem.len]; exact hjd2
                have hrd := hli2.read hjd2 hjr2 op.name op.pos op.n (by omega)
                rw [hsd.dp j hjd hjd2, HDP.out, hsd.rp j hjr hjr2, HRP.out] at hrd
                have b2 := hli2.al.at_b (hsd.bx.trans HBX1.out) (i := 2) rfl
                have b5 := hli2.al.at_b (hsd.bx.trans HBX1.out) (i := 5) rfl
                have b6 := hli2.al.at_b (hsd.bx.trans HBX1.out) (i := 6) rfl
                have bl := hli2.al.at_bl (hsd.bx.trans HBX1.out)
                have HRD := hid hrd
                clear hli2 hsd hrd hjd2 hjr2
                go_wp2_with fail
                refine HRD.out.mono ?_
                rintro e w1 ⟨va, NV, vc, ec, rfl, hNV, ⟨s3, hal3, hsd3⟩, hnext⟩
                have HNX := hid hnext
                clear b2 b5 b6 bl
                have hbx3 := hsd3.bx.trans (HSD.out.bx.trans HBX1.out)
                have b2 := hal3.at_b hbx3 (i := 2) rfl
                have b5 := hal3.at_b hbx3 (i := 5) rfl
                have b6 := hal3.at_b hbx3 (i := 6) rfl
                have bl := hal3.at_bl hbx3
                clear hnext hal3 hsd3 hbx3
                go_wp2_with fail
                refine HNX.out.mono ?_
                rintro e w2 ⟨ra, RN, rc, rfl, hsame, hkeep⟩
                have HSAME := hid hsame; have HKEEP := hid hkeep
                clear hsame hkeep b2 b5 b6 bl
                go_wp2_with fail
                refine (num_any ec w2).mono ?_
                rintro e w' ⟨rfl, hww⟩
                obtain rfl := hww.symm
                go_wp2_with fail
                refine HSAME.out.mono ?_
                rintro e w' ⟨rfl, hww⟩
                obtain rfl := hww.symm
                go_wp2_with fail
                refine HKEEP.out.mono ?_
                rintro e w3 ⟨rfl, s4, hli4, hsd4⟩
                have HLI4 := hid hli4; have HSD4 := hid hsd4
                clear hli4 hsd4
                go_wp2
                go_roundw
                case rel => exact ⟨n + 1, by omega, by go_num, hd2 + (NV : Int), rfl, by omega, by omega, s4, HLI4.out, HSD.out.trans HSD4.out⟩
                case measure => simp [intOf]; omega
              · obtain rfl : n = 2 := by omega
                have HF := hid (show ∃ hd3 : Int, Value.int .i64 hd2 = .int .i64 hd3 ∧ 0 ≤ hd3 ∧ hd3 ≤ 1073741824 ∧ ∃ s3 : LD, LI W wr P pb pn pf (2 * k + 2) (1073741824 + (k : Int) * roundN + roundN) s3 ∧ L ≤ s3.S.ds.length from ⟨hd2, rfl, hd20, by omega, s2, hli2.more (Nat.le_refl _) (by unfold roundN; omega), by rw [hsd.len, HLL.out]; exact Nat.le_refl _⟩)
                clear hli2 hsd
                go_wp2
                go_meet
                case rel => exact HF.out
          · by_cases hk8 : op.kind = 8
            · have e1 : (op.kind == 6) = false := by simpa using hk6
              have e2 : (op.kind == 8) = true := by simpa using hk8
              clear hk6 hk8
              as_aux_lemma =>
              have hrow2 : (2 * k + 1 : Nat) ≤ 300 := by omega
              go_wp2
              go_loopw [20] (fun nv wr => ∃ n : Nat, n ≤ 2 ∧ nv = .int .i64 n ∧ ∃ s2 : LD, LI W wr P pb pn pf (2 * k + n) (1073741824 + (k : Int) * roundN) s2 ∧ SameD s1 s2) (fun nv _ => 2 - (intOf nv).toNat)
              case atStart => exact ⟨0, by omega, rfl, s1, HLIQ.out, SameD.refl _⟩
              case round =>
                clear b0 b1 bl
                obtain ⟨n, hn, rfl, s2, hli2, hsd⟩ := hrel
                have HLI2 := hid hli2; have HSD := hid hsd
                by_cases hlt : n < 2
                · have hjd2 : j < s2.S.ds.length := by rw [hsd.len]; exact hjd
                  have hjr2 : j < s2.S.rs.length := by rw [hli2.al.mem.len]; exact hjd2
                  have hrd := hli2.list hjd2 hjr2 op.name (by omega)
                  rw [hsd.dp j hjd hjd2, HDP.out, hsd.rp j hjr hjr2, HRP.out] at hrd
                  have b2 := hli2.al.at_b (hsd.bx.trans HBX1.out) (i := 2) rfl
                  have bl := hli2.al.at_bl (hsd.bx.trans HBX1.out)
                  have HRD := hid hrd
                  clear hli2 hsd hrd hjd2 hjr2
                  go_wp2_with fail
                  refine HRD.out.mono ?_
                  rintro e w1 ⟨va, NV, vc, rfl, hal3, hnext⟩
                  have HNX := hid hnext
                  clear b2 bl
                  have b2 := hal3.at_b (HSD.out.bx.trans HBX1.out) (i := 2) rfl
                  have bl := hal3.at_bl (HSD.out.bx.trans HBX1.out)
                  clear hnext hal3
                  go_wp2_with fail
                  refine HNX.out.mono ?_
                  rintro e w2 ⟨v2, rfl, hnext⟩
                  have HNX2 := hid hnext
                  clear hnext b2 bl
                  go_wp2_with fail
                  refine HNX2.out.mono ?_
                  rintro e w3 ⟨rfl, hal4, hkeep⟩
                  have HKEEP := hid hkeep
                  clear hal4 hkeep
                  go_wp2_with fail
                  refine HKEEP.out.mono ?_
                  rintro e w4 ⟨rfl, s4, hli4, hsd4⟩
                  have HLI4 := hid hli4; have HSD4 := hid hsd4
                  clear hli4 hsd4
                  go_wp2
                  go_roundw
                  case rel => exact ⟨n + 1, by omega, by go_num, s4, HLI4.out, HSD.out.trans HSD4.out⟩
                  case measure => simp [intOf]; omega
                · obtain rfl : n = 2 := by omega
                  have HF := hid (show ∃ hd3 : Int, Value.int .i64 hd = .int .i64 hd3 ∧ 0 ≤ hd3 ∧ hd3 ≤ 1073741824 ∧ ∃ s3 : LD, LI W wr P pb pn pf (2 * k + 2) (1073741824 + (k : Int) * roundN + roundN) s3 ∧ L ≤ s3.S.ds.length from ⟨hd, rfl, hd0, hd1, s2, hli2.more (Nat.le_refl _) (by unfold roundN; omega), by rw [hsd.len, HLL.out]; exact Nat.le_refl _⟩)
                  clear hli2 hsd
                  go_wp2
                  go_meet
                  case rel => exact HF.out
            · by_cases hk15 : op.kind = 15
              · have e1 : (op.kind == 6) = false := by simpa using hk6
                have e2 : (op.kind == 8) = false := by simpa using hk8
                have e3 : (op.kind == 15) = true := by simpa using hk15
                clear hk6 hk8 hk15
                as_aux_lemma =>
                have hrow2 : (2 * k + 1 : Nat) ≤ 300 := by omega
                go_wp2
                go_loopw [9, 22] (fun hv nv wr => ∃ n : Nat, n ≤ 2 ∧ nv = .int .i64 n ∧ ∃ hd2 : Int, hv = .int .i64 hd2 ∧ 0 ≤ hd2 ∧ hd2 ≤ 8388608 + (n : Int) * 67108864 ∧ ∃ s2 : LD, LI W wr P pb pn pf (2 * k + n) (1073741824 + (k : Int) * roundN) s2 ∧ SameD s1 s2) (fun _ nv _ => 2 - (intOf nv).toNat)
                case atStart => exact ⟨0, by omega, rfl, hd, rfl, hd0, by omega, s1, HLIQ.out, SameD.refl _⟩
                case round =>
                  clear b0 b1 bl
                  obtain ⟨n, hn, rfl, hd2, rfl, hd20, hd21, s2, hli2, hsd⟩ := hrel
                  have HLI2 := hid hli2; have HSD := hid hsd
                  by_cases hlt : n < 2
                  · have hjd2 : j < s2.S.ds.length := by rw [hsd.len]; exact hjd
                    have hjr2 : j < s2.S.rs.length := by rw [hli2.al.mem.len]; exact hjd2
                    have hrd := hli2.files hjd2 hjr2 (by omega)
                    rw [hsd.dp j hjd hjd2, HDP.out, hsd.rp j hjr hjr2, HRP.out] at hrd
                    have HRD := hid hrd
                    clear hli2 hsd hrd hjd2 hjr2
                    go_wp2_with fail
                    refine HRD.out.mono ?_
                    rintro e w1 ⟨va, NV, vc, rfl, hnext⟩
                    have HNX := hid hnext
                    clear hnext
                    go_wp2_with fail
                    refine HNX.out.mono ?_
                    rintro e w2 ⟨v2, rfl, hnext⟩
                    have HNX2 := hid hnext
                    clear hnext
                    go_wp2_with fail
                    refine HNX2.out.mono ?_
                    rintro e w3 ⟨rfl, hkeep⟩
                    have HKEEP := hid hkeep
                    clear hkeep
                    go_wp2_with fail
                    refine HKEEP.out.mono ?_
                    rintro e w4 ⟨rfl, s4, hli4, hsd4⟩
                    have hsd5 := HSD.out.trans hsd4
                    have hjd4 : j < s4.S.ds.length := by rw [hsd5.len]; exact hjd
                    obtain ⟨cp, fr, hcf1, hcf2, hcap, hfree⟩ := hli4.caps hjd4
                    rw [hsd5.dp j hjd hjd4, HDP.out] at hcap hfree
                    have HLI4 := hid hli4; have HSD5 := hid hsd5; have HCAP := hid hcap; have HFREE := hid hfree
                    clear hli4 hsd4 hsd5 hjd4 hcap hfree
                    go_wp2_with fail
                    refine HCAP.out.mono ?_
                    rintro e w' ⟨rfl, hww⟩
                    obtain rfl := hww.symm
                    go_wp2_with fail
                    refine HFREE.out.mono ?_
                    rintro e w5 ⟨rfl, hli5⟩
                    have HLI5 := hid hli5
                    clear hli5
                    go_wp2
                    go_roundw
                    case rel => exact ⟨n + 1, by omega, by go_num, hd2 + (cp : Int) - (fr : Int), rfl, by omega, by omega, s4, HLI5.out, HSD5.out⟩
                    case measure => simp [intOf]; omega
                  · obtain rfl : n = 2 := by omega
                    have HF := hid (show ∃ hd3 : Int, Value.int .i64 hd2 = .int .i64 hd3 ∧ 0 ≤ hd3 ∧ hd3 ≤ 1073741824 ∧ ∃ s3 : LD, LI W wr P pb pn pf (2 * k + 2) (1073741824 + (k : Int) * roundN + roundN) s3 ∧ L ≤ s3.S.ds.length from ⟨hd2, rfl, hd20, by omega, s2, hli2.more (Nat.le_refl _) (by unfold roundN; omega), by rw [hsd.len, HLL.out]; exact Nat.le_refl _⟩)
                    clear hli2 hsd
                    go_wp2
                    go_meet
                    case rel => exact HF.out
              · have e1 : (op.kind == 6) = false := by simpa using hk6
                have e2 : (op.kind == 8) = false := by simpa using hk8
                have e3 : (op.kind == 15) = false := by simpa using hk15
                clear hk6 hk8 hk15
                as_aux_lemma =>
                have hpl := HLIQ.out.plays HOK.out (by have := HLL.out; omega) (by have := HFEW.out; unfold roundN; omega)
                rw [HCL.out] at hpl
                have HPL := hid hpl
                clear hpl b0 b1
                have b0 := HLIQ.out.al.at_b HBX1.out (i := 0) rfl
                have b1 := HLIQ.out.al.at_b HBX1.out (i := 1) rfl
                have b2 := HLIQ.out.al.at_b HBX1.out (i := 2) rfl
                have b3 := HLIQ.out.al.at_b HBX1.out (i := 3) rfl
                have b4 := HLIQ.out.al.at_b HBX1.out (i := 4) rfl
                have b5 := HLIQ.out.al.at_b HBX1.out (i := 5) rfl
                have b6 := HLIQ.out.al.at_b HBX1.out (i := 6) rfl
                have b7 := HLIQ.out.al.at_b HBX1.out (i := 7) rfl
                have b8 := HLIQ.out.al.at_b HBX1.out (i := 8) rfl
                go_wp2_with fail
                refine HPL.out.mono ?_
                rintro e w3 ⟨rfl, s2, q1, q2⟩
                have HF := hid (show ∃ hd3 : Int, Value.int .i64 hd = .int .i64 hd3 ∧ 0 ≤ hd3 ∧ hd3 ≤ 1073741824 ∧ ∃ s3 : LD, LI W w3 P pb pn pf (2 * k + 2) (1073741824 + (k : Int) * roundN + roundN) s3 ∧ L ≤ s3.S.ds.length from ⟨hd, rfl, hd0, hd1, s2, q1.more (by omega) (by have := HFEW.out; unfold roundN; omega), by rw [HLL.out]; exact q2⟩)
                clear q1 q2 b0 b1 b2 b3 b4 b5 b6 b7 b8 bl
                go_wp2
                go_meet
                case rel => exact HF.out
        case rest =>
         as_aux_lemma =>
          clear b0 b1 bl
          obtain ⟨hd2, rfl, hd20, hd21, s2, hli2, hL2⟩ := hcut
          have HUN := hid hli2.untouched
          have HL2 := hid (show 0 < s2.S.ds.length by omega)
          clear hli2 hL2
          go_wp2_with fail
          refine HUN.out.mono ?_
          rintro e w3 ⟨rfl, hli3⟩
          have HLI3 := hid (show LI W w3 P pb pn pf (2 * (k + 1)) (1073741824 + ((k + 1 : Nat) : Int) * roundN) s2 from hli3.more (by omega) (by unfold roundN; push_cast; omega))
          clear hli3
          go_wp2
          go_roundw
          case rel => exact ⟨k + 1, by omega, by omega, by go_num, hd2, rfl, hd20, hd21, s2, HLI3.out, HL2.out⟩
          case measure => simp [intOf]; omega
    · have hex : ¬ k < l.length ∨ (k < l.length ∧ ¬ k < 120) ∨ (k < l.length ∧ k < 120 ∧ ¬ hd < 8388608) := by omega
      clear hgo
      have HSET := hid (HLI.out.settle (by omega))
      have HEND := hid (show s.S.p = P from HLI.out.p)
      rcases hex with h1 | ⟨h1, h2⟩ | ⟨h1, h2, h3⟩
      all_goals
        go_wp2_with fail
        refine HSET.out.mono ?_
        rintro e w1 ⟨rfl, hn1⟩
        have HN1 := hid hn1
        clear hn1
        go_wp2_with fail
        refine HN1.out.mono ?_
        rintro e w2 ⟨rfl, hn2⟩
        have HN2 := hid hn2
        clear hn2
        go_wp2_with fail
        refine HN2.out.mono ?_
        rintro e w3 ⟨rfl, hon⟩
        obtain ⟨L, hL⟩ : ∃ L, L = s.S.ds.length := ⟨_, rfl⟩
        have HLL := hid hL
        obtain ⟨gd, dc, hdv, hdc1, hdc2⟩ := owns_slice hon.mem.rowD hlen1
        obtain ⟨gr, rc, hrv, hrc1, hrc2⟩ := owns_slice hon.mem.rowR (by rw [hon.mem.len]; exact hlen1)
        rw [hon.mem.len] at hrv hrc1
        have hL5 : L ≤ 5 := by rw [hL]; exact hon.few
        rw [← hL] at hdv hdc1 hrv hrc1
        have HON := hid hon
        have HTOP := hid (show ∀ V, Upd (fun _ => False) w3 V → V.cell? ⟨P, 0, none⟩ = some (.slice (some ⟨gd, 0, none⟩) L dc) ∧ V.cell? ⟨P, 1, none⟩ = some (.slice (some ⟨gr, 0, none⟩) L rc) ∧ P < V.heap.size from fun V hV => by
          have hm := (HON.out.keep hV).mem
          rw [← HEND.out, ← hdv, ← hrv]
          exact ⟨by rw [cell_of_row V _ 0 _ _ _ hm.top]; rfl, by rw [cell_of_row V _ 1 _ _ _ hm.top]; rfl, lt_of_heap hm.top⟩)
        have HROW := hid (show ∀ V, Upd (fun _ => False) w3 V → ∀ j (hj : j < s.S.ds.length) (hj' : j < s.S.rs.length), V.cell? ⟨gd, j, none⟩ = some (.pointer (some ⟨s.S.ds[j].p, 0, none⟩)) ∧ gd < V.heap.size ∧ V.cell? ⟨gr, j, none⟩ = some (.pointer (some ⟨s.S.rs[j].p, 0, none⟩)) ∧ gr < V.heap.size from fun V hV j hj hj' => by
          have hm := (HON.out.keep hV).mem
          obtain ⟨a1, a2⟩ := owns_at (u := .pointer (some ⟨s.S.ds[j].p, 0, none⟩)) hm.rowD hdv hj (by simp [hj, ptrD])
          obtain ⟨a3, a4⟩ := owns_at (u := .pointer (some ⟨s.S.rs[j].p, 0, none⟩)) hm.rowR hrv hj' (by simp [hj', ptrR])
          exact ⟨a1, a2, a3, a4⟩)
        obtain ⟨p0, p1, pl⟩ := HTOP.out w3 (Upd.refl _ _)
        clear hon hL hdv hrv
        go_wp2
        go_loopw [25, 26] (fun okv iv wr => ∃ i : Nat, i ≤ L ∧ iv = .int .i64 i ∧ okv = .bool true ∧ Upd (fun _ => False) w3 wr) (fun _ iv _ => L - (intOf iv).toNat)
        case atStart => exact ⟨0, Nat.zero_le _, rfl, rfl, Upd.refl _ _⟩
        case round =>
          clear p0 p1 pl
          obtain ⟨j, hj, rfl, rfl, hup⟩ := hrel
          obtain ⟨p0, p1, pl⟩ := HTOP.out _ hup
          have HUP := hid hup
          by_cases hlt : j < L
          · have hjd : j < s.S.ds.length := by have := HLL.out; omega
            have hjr : j < s.S.rs.length := by rw [HON.out.mem.len]; exact hjd
            obtain ⟨g0, hgl, g1, hgrl⟩ := HROW.out _ hup j hjd hjr
            obtain ⟨hf1, hf2⟩ := files2L (HON.out.keep hup) hjd hjr
            obtain ⟨dp, hdp⟩ : ∃ dp, s.S.ds[j].p = dp := ⟨_, rfl⟩
            obtain ⟨rp, hrp⟩ : ∃ rp, s.S.rs[j].p = rp := ⟨_, rfl⟩
            obtain ⟨fl2, hfl2⟩ : ∃ fl2, fileList s.S.ds[j] = fl2 := ⟨_, rfl⟩
            rw [hdp] at g0
            rw [hrp] at g1
            rw [hdp, hfl2] at hf1
            rw [hrp, hfl2] at hf2
            have HF1 := hid hf1; have HF2 := hid hf2
            have HF6 := hid (show ∀ V v1 v2 l1 l2 b1 b2, FilesAt V b1 v1 l1 → FilesAt V b2 v2 l2 → l1.map FV.abs = l2.map FV.abs → Calls Tryz.prog 17 #[v1, v2] V fun e V' => e = .returned (.bool true) ∧ Upd (fun _ => False) V V' from fun V v1 v2 l1 l2 b1 b2 h1 h2 h3 => by
              refine (sameFiles_any h1 h2).mono ?_
              rintro e V' ⟨b, rfl, hb, hu⟩
              exact ⟨by rw [hb.2 h3], hu⟩)
            have hcur := hid (show Upd (fun _ => False) wr wr.drew from (Upd.refl _ wr).drew)
            have HP2 := hid (show ∀ V, Upd (fun _ => False) wr V → V.cell? ⟨P, 0, none⟩ = some (.slice (some ⟨gd, 0, none⟩) L dc) ∧ V.cell? ⟨P, 1, none⟩ = some (.slice (some ⟨gr, 0, none⟩) L rc) ∧ V.cell? ⟨gd, j, none⟩ = some (.pointer (some ⟨dp, 0, none⟩)) ∧ V.cell? ⟨gr, j, none⟩ = some (.pointer (some ⟨rp, 0, none⟩)) from fun V hV => ⟨(World.cell?_of_block (a := ⟨P, 0, none⟩) (hV.block _ pl (fun e => e))).trans p0, (World.cell?_of_block (a := ⟨P, 1, none⟩) (hV.block _ pl (fun e => e))).trans p1, (World.cell?_of_block (a := ⟨gd, j, none⟩) (hV.block _ hgl (fun e => e))).trans g0, (World.cell?_of_block (a := ⟨gr, j, none⟩) (hV.block _ hgrl (fun e => e))).trans g1⟩)
            clear hup hdp hrp hfl2 hf1 hf2 hjd hjr
            go_upto_region 54 with fail
            go_region_held3 (fun V => V.cell? ⟨P, 0, none⟩ = some (.slice (some ⟨gd, 0, none⟩) L dc) ∧ V.cell? ⟨P, 1, none⟩ = some (.slice (some ⟨gr, 0, none⟩) L rc) ∧ V.cell? ⟨gd, j, none⟩ = some (.pointer (some ⟨dp, 0, none⟩)) ∧ V.cell? ⟨gr, j, none⟩ = some (.pointer (some ⟨rp, 0, none⟩)))
              (first | exact HP2.out _ hcur.out | exact (HP2.out _ hcur.out).1 | exact (HP2.out _ hcur.out).2.1 | exact (HP2.out _ hcur.out).2.2 | exact (HP2.out _ hcur.out).2.2.1 | exact (HP2.out _ hcur.out).2.2.2 | go_keep)
              (first
                | (go_at_call 16; refine (HF1.out _ hcur.out).mono ?_; rintro e wa ⟨va, la, rfl, hfa, hla, h0a⟩; have hcur := hid (hcur.out.trans h0a (fun _ _ h => h)))
                | (go_at_call 18; refine (HF2.out _ hcur.out).mono ?_; rintro e wb ⟨vb, lb, rfl, hfb, hlb, h0b⟩; have hcur := hid (hcur.out.trans h0b (fun _ _ h => h)))
                | (go_at_call 17; refine (HF6.out _ _ _ _ _ _ _ (by first | exact hfa | exact hfa.keep h0b (fun _ _ h => h)) (by first | exact hfb | exact hfb.keep h0a (fun _ _ h => h)) (hla.trans hlb.symm)).mono ?_; rintro e wd ⟨rfl, h0c⟩; have hcur := hid (hcur.out.trans h0c (fun _ _ h => h)))
                | fail)
            all_goals
              have HU4 := hid (HUP.out.trans hcur.out (fun _ _ e => e))
              clear hfa hfb h0a h0b h0c hla hlb p0 p1 pl g0 g1 hgl hgrl
              go_wp2
              go_roundw
              case rel => exact ⟨j + 1, by omega, by go_num, rfl, HU4.out⟩
              case measure => simp [intOf]; omega
          · obtain rfl : j = L := by omega
            have HBEL := hid (show Below W.heap.size W wr from (HON.out.upd.trans hup (fun _ _ e => e)).below (Nat.le_refl _) (fun _ h => h.elim))
            clear hup
            go_wp2
            go_ret
            exact ⟨by first | rfl | simp, HBEL.out⟩

end Go.Proofs.YtohpgmeflmppaaaGreat
