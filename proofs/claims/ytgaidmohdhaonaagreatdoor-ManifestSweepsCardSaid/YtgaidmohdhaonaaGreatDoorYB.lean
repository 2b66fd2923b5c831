/-
  Package wire, walked: ReadFrame.
  Package wire, walked: Ordered, ReadOrdered.
  Package wire, walked: ReadOrdered.
  Package wire, walked: Rising, Falling.
  Package wire, walked: ReadRising, ReadFalling.
-/
import Derived.Test.YtgaidmohdhaonaaGreatDoorYA
namespace Go.Proofs.YtgaidmohdhaonaaGreatDoor
set_option linter.unusedVariables false
set_option linter.unusedSimpArgs false
set_option linter.unnecessarySimpa false
set_option linter.unusedSectionVars false
open Go Go.RowKit

theorem or_i64 (i : Nat) (x y : Int) (h0 : 0 ≤ x) (h1 : x % 2 ^ i = 0) (h2 : x < 4294967296) (h3 : 0 ≤ y) (h4 : y < 2 ^ i) (hi : y < 4294967296) : bits .or .i64 x y = x + y :=
  bits_join .i64 63 (by decide) (fun n h1 h2 => by rw [IntKind.wrap_i64]; omega) i x y h0 h1 (by omega) h3 h4 (by omega)

theorem num4_or {c0 c1 c2 c3 : Nat} (h0 : c0 < 256) (h1 : c1 < 256) (h2 : c2 < 256) (h3 : c3 < 256) :
    bits .or .i64 (bits .or .i64 (bits .or .i64 ((c0 : Int) * 16777216) ((c1 : Int) * 65536)) ((c2 : Int) * 256)) (c3 : Int) = ((((c0 * 256 + c1) * 256 + c2) * 256 + c3 : Nat) : Int) := by
  have s1 : bits .or .i64 ((c0 : Int) * 16777216) ((c1 : Int) * 65536) = (c0 : Int) * 16777216 + (c1 : Int) * 65536 := or_i64 24 _ _ (by omega) (by omega) (by omega) (by omega) (by omega) (by omega)
  have s2 : bits .or .i64 ((c0 : Int) * 16777216 + (c1 : Int) * 65536) ((c2 : Int) * 256) = (c0 : Int) * 16777216 + (c1 : Int) * 65536 + (c2 : Int) * 256 := or_i64 16 _ _ (by omega) (by omega) (by omega) (by omega) (by omega) (by omega)
  have s3 : bits .or .i64 ((c0 : Int) * 16777216 + (c1 : Int) * 65536 + (c2 : Int) * 256) (c3 : Int) = (c0 : Int) * 16777216 + (c1 : Int) * 65536 + (c2 : Int) * 256 + (c3 : Int) := or_i64 8 _ _ (by omega) (by omega) (by omega) (by omega) (by omega) (by omega)
  rw [s1, s2, s3]
  omega

theorem num4_lt {N c0 c1 c2 c3 : Nat} (h0 : c0 < 256) (h1 : c1 < 256) (h2 : c2 < 256) (h3 : c3 < 256) (h : N = ((c0 * 256 + c1) * 256 + c2) * 256 + c3) : N < 4294967296 := by omega

theorem BAt.at_ {w : World} {g o n cap : Nat} {bs : List UInt8} (h : BAt w (.slice (some ⟨g, o, none⟩) n cap) bs) {j : Nat} (hj : j < bs.length) : w.cell? ⟨g, o + j, none⟩ = some (.int .u8 ((bs[j].toNat : Nat) : Int)) ∧ g < w.heap.size := by
  obtain ⟨ao, cp, e, -, -, -, h4⟩ := h
  injection e with e1 _ _
  subst e1
  obtain ⟨g', o', e, hg, hc⟩ := h4 j hj
  injection e with e
  injection e with e1 e2
  subst e1 e2
  exact ⟨hc, hg⟩

theorem num4_at {b : List UInt8} {a : Nat} (h : a + 4 ≤ b.length) : num4 ((b.drop a).take 4) = (((b[a]'(by omega)).toNat * 256 + (b[a + 1]'(by omega)).toNat) * 256 + (b[a + 2]'(by omega)).toNat) * 256 + (b[a + 3]'(by omega)).toNat := by
  have e : (b.drop a).take 4 = [b[a]'(by omega), b[a + 1]'(by omega), b[a + 2]'(by omega), b[a + 3]'(by omega)] := by
    apply List.ext_getElem
    · simp; omega
    · intro i h1 h2
      simp only [List.length_cons, List.length_nil] at h2
      rw [List.getElem_take, List.getElem_drop]
      match i, h2 with
      | 0, _ => rfl
      | 1, _ => rfl
      | 2, _ => rfl
      | 3, _ => rfl
  rw [e]
  simp only [num4, List.foldl_cons, List.foldl_nil]
  omega

set_option maxRecDepth 100000 in
set_option maxHeartbeats 3200000 in
theorem readFrame_any {w : World} {v : Value} {b : List UInt8} (hT : TabIn w) (hv : BAt w v b) {a : Nat} (ha : a ≤ b.length) (hl : b.length ≤ 140737488351232) :
    Calls Tryz.prog 73 #[v, .int .i64 a] w fun e w' => ∃ v', e = .returned (.tuple #[v', .int .i64 ((readFr b a).2.1 : Nat), .int .i64 (readFr b a).2.2]) ∧ NewB w w' v' (readFr b a).1 := by
  have HV := hid hv; have HT := hid hT
  have HOUT := hid (outside_in hv ha)
  obtain ⟨R, hR⟩ : ∃ R, R = readFr b a := ⟨_, rfl⟩
  rw [← hR]
  unfold readFr at hR
  obtain ⟨ao, cap, rfl, h1, h2, h3, h4⟩ := hv
  have HC := hid h4
  have HR := hid hR
  clear hR h3 h4 hT
  go_enter Tryz.func73, Tryz.ntmps73
  go_wp2_with fail
  refine HOUT.out.mono ?_
  rintro e w' ⟨rfl, hww⟩
  obtain rfl := hww.symm
  by_cases h8 : b.length - a < 8
  · have hR := HR.out
    rw [if_pos h8] at hR
    have HF := hid hR
    have h8i : (b.length : Int) - (a : Int) < 8 := by omega
    clear hR h8
    go_wp2
    go_ret3
    exact ⟨.slice none 0 0, by rw [HF.out]; rfl, by rw [HF.out]; exact NewB.nil _⟩
  · have hR := HR.out
    rw [if_neg h8] at hR
    have HR2 := hid hR
    have h8i : ¬ (b.length : Int) - (a : Int) < 8 := by omega
    have ha8 : a + 8 ≤ b.length := by omega
    obtain ⟨g, o, rfl⟩ : ∃ g o, ao = some ⟨g, o, none⟩ := by
      obtain ⟨g, o, e, -⟩ := HC.out a (by omega)
      exact ⟨g, o, e⟩
    have HSUB := hid (HV.out.sub (lo := a) (n := 4) (by omega))
    have HS1 := hid (sum_one HT.out HSUB.out (by simp; omega))
    have i0 : (0 : Int) ≤ (a : Int) := by omega
    have i1 : (a : Int) ≤ (a : Int) + 4 := by omega
    have i2 : (a : Int) + 4 ≤ (cap : Int) := by omega
    have i4 : ¬ cap = a := by omega
    have i6 : a + 4 - a = 4 := by omega
    have i8 : ¬ cap - a = 0 := by omega
    clear hR h8
    go_wp2_with fail
    refine HS1.out.mono ?_
    rintro e w1 ⟨rfl, hu1⟩
    have his := is_any (HV.out.keep hu1) (a := a + 4) (by omega) (by omega) (crc_lt ((b.drop a).take 4))
    rw [show ((a + 4 : Nat) : Int) = (a : Int) + 4 from by omega] at his
    have HIS := hid his; have HU1 := hid hu1
    clear hu1 his
    go_wp2_with fail
    refine HIS.out.mono ?_
    rintro e w2 ⟨rfl, hu2⟩
    have HU2 := hid (HU1.out.trans hu2 (fun _ _ e => e))
    clear hu2
    by_cases hs : (b.drop (a + 4)).take 4 = lowB (crc ((b.drop a).take 4))
    · have hsd : decide ((b.drop (a + 4)).take 4 = lowB (crc ((b.drop a).take 4))) = true := by simpa using hs
      rw [hsd]
      have hR := HR2.out
      rw [if_neg (by simpa using hs)] at hR
      have HV2 := hid (HV.out.keep HU2.out)
      obtain ⟨d0, hg⟩ := HV2.out.at_ (j := a) (by omega)
      obtain ⟨d1, -⟩ := HV2.out.at_ (j := a + 1) (by omega)
      obtain ⟨d2, -⟩ := HV2.out.at_ (j := a + 2) (by omega)
      obtain ⟨d3, -⟩ := HV2.out.at_ (j := a + 3) (by omega)
      have hnum := num4_at (b := b) (a := a) (by omega)
      have l0 : (b[a]'(by omega)).toNat < 256 := (b[a]'(by omega)).toNat_lt
      have l1 : (b[a + 1]'(by omega)).toNat < 256 := (b[a + 1]'(by omega)).toNat_lt
      have l2 : (b[a + 2]'(by omega)).toNat < 256 := (b[a + 2]'(by omega)).toNat_lt
      have l3 : (b[a + 3]'(by omega)).toNat < 256 := (b[a + 3]'(by omega)).toNat_lt
      generalize (b[a]'(by omega)).toNat = c0 at d0 hnum l0
      generalize (b[a + 1]'(by omega)).toNat = c1 at d1 hnum l1
      generalize (b[a + 2]'(by omega)).toNat = c2 at d2 hnum l2
      generalize (b[a + 3]'(by omega)).toNat = c3 at d3 hnum l3
      obtain ⟨N, hN⟩ : ∃ N, N = num4 ((b.drop a).take 4) := ⟨_, rfl⟩
      rw [← hN] at hR hnum
      have hor := num4_or l0 l1 l2 l3
      rw [← hnum] at hor
      have HOR := hid hor; have HNUM := hid hnum
      have hNl : N < 4294967296 := num4_lt l0 l1 l2 l3 hnum
      have HR3 := hid hR
      clear hR hN hs hsd hor hnum i1 i2 i4 i6 i8
      go_upto_region 7 with fail
      go_quiet (fail)
      revert nq
      intro q
      go_upto_region 8 with fail
      try rw [HOR.out]
      have HU3 := hid (show Upd (fun _ => False) w (w2.drewN q) from HU2.out.drewN q)
      generalize w2.drewN q = w3 at HU3 ⊢
      clear d0 d1 d2 d3 hg HV2
      by_cases hbig : 1048576 < N
      · have hR := HR3.out
        rw [if_pos hbig] at hR
        have HF := hid hR
        have hbi : (1048576 : Int) < (N : Int) := by omega
        clear hR hbig
        go_wp2
        go_ret3
        exact ⟨.slice none 0 0, by rw [HF.out]; rfl, by rw [HF.out]; exact ⟨.inl ⟨rfl, rfl⟩, fun k e => (by cases e), HU3.out⟩⟩
      · have hR := HR3.out
        rw [if_neg hbig] at hR
        have hbi : ¬ (1048576 : Int) < (N : Int) := by omega
        by_cases hto : b.length - (a + 8) < N + 4
        · rw [if_pos hto] at hR
          have HF := hid hR
          have hti : (b.length : Int) - ((a : Int) + 8) < (N : Int) + 4 := by omega
          clear hR hbig hto
          go_wp2
          go_ret3
          exact ⟨.slice none 0 0, by rw [HF.out]; rfl, by rw [HF.out]; exact ⟨.inl ⟨rfl, rfl⟩, fun k e => (by cases e), HU3.out⟩⟩
        · rw [if_neg hto] at hR
          have hti : ¬ (b.length : Int) - ((a : Int) + 8) < (N : Int) + 4 := by omega
          have hfit : a + 8 + N + 4 ≤ b.length := by omega
          have HV3 := hid (HV.out.keep HU3.out)
          have HSB := hid (HV3.out.sub (lo := a + 8) (n := N) (by omega))
          have HS3 := hid (sum_one (HT.out.keep HU3.out) HSB.out (by simp; omega))
          have i0 : (0 : Int) ≤ (a : Int) + 8 := by omega
          have i1 : (a : Int) + 8 ≤ (a : Int) + 8 + (N : Int) := by omega
          have i2 : (a : Int) + 8 + (N : Int) ≤ (cap : Int) := by omega
          have i4 : ¬ cap = a + 8 := by omega
          have i8 : ¬ cap - (a + 8) = 0 := by omega
          have HR4 := hid hR
          clear hR hbig hto
          go_wp2_with fail
          refine HS3.out.mono ?_
          rintro e w4 ⟨rfl, hu4⟩
          have HU4 := hid (HU3.out.trans hu4 (fun _ _ e => e))
          have his := is_any (HV.out.keep HU4.out) (a := a + 8 + N) (by omega) (by omega) (crc_lt ((b.drop (a + 8)).take N))
          rw [show ((a + 8 + N : Nat) : Int) = (a : Int) + 8 + (N : Int) from by omega] at his
          have HIS2 := hid his
          clear hu4 his
          go_wp2_with fail
          refine HIS2.out.mono ?_
          rintro e w5 ⟨rfl, hu5⟩
          have HU5 := hid (HU4.out.trans hu5 (fun _ _ e => e))
          clear hu5
          by_cases hs2 : (b.drop (a + 8 + N)).take 4 = lowB (crc ((b.drop (a + 8)).take N))
          · have hsd : decide ((b.drop (a + 8 + N)).take 4 = lowB (crc ((b.drop (a + 8)).take N))) = true := by simpa using hs2
            rw [hsd]
            have hR := HR4.out
            rw [if_neg (by simpa using hs2)] at hR
            have HF := hid hR
            have HV5 := hid (HV.out.keep HU5.out)
            have HCL := hid (clone_any ((HV5.out.sub (lo := a + 8) (n := N) (by omega)).bytes) (by simp; omega))
            clear hR hs2 hsd
            go_wp2_with fail
            refine HCL.out.mono ?_
            rintro e w6 ⟨v6, rfl, hd, hnew, hbel⟩
            have hs05 := HU5.out.size
            have HN6 := hid (show NewB w w6 v6 R.1 from by rw [HF.out]; exact ⟨hd, fun k e => Nat.le_trans hs05 (hnew k e), HU5.out.trans (Upd.of_below (S := fun _ => False) hbel) (fun _ _ e => e)⟩)
            have HE := hid (show ((R.2.1 : Nat) : Int) = (a : Int) + 8 + (N : Int) + 4 ∧ R.2.2 = 0 from by rw [HF.out]; exact ⟨by simp only []; omega, rfl⟩)
            clear hd hnew hbel hs05
            go_wp2
            go_ret3
            exact ⟨v6, by rw [HE.out.1, HE.out.2]; rfl, HN6.out⟩
          · have hsd : decide ((b.drop (a + 8 + N)).take 4 = lowB (crc ((b.drop (a + 8)).take N))) = false := by simpa using hs2
            rw [hsd]
            have hR := HR4.out
            rw [if_pos hs2] at hR
            have HF := hid hR
            clear hR hs2 hsd
            go_wp2
            go_ret3
            exact ⟨.slice none 0 0, by rw [HF.out]; rfl, by rw [HF.out]; exact ⟨.inl ⟨rfl, rfl⟩, fun k e => (by cases e), HU5.out⟩⟩
    · have hsd : decide ((b.drop (a + 4)).take 4 = lowB (crc ((b.drop a).take 4))) = false := by simpa using hs
      rw [hsd]
      have hR := HR2.out
      rw [if_pos hs] at hR
      have HF := hid hR
      clear hR hs hsd
      go_wp2
      go_ret3
      exact ⟨.slice none 0 0, by rw [HF.out]; rfl, by rw [HF.out]; exact ⟨.inl ⟨rfl, rfl⟩, fun k e => (by cases e), HU2.out⟩⟩

end Go.Proofs.YtgaidmohdhaonaaGreatDoor

namespace Go.Proofs.YtgaidmohdhaonaaGreatDoor
set_option linter.unusedVariables false
set_option linter.unusedSimpArgs false
set_option linter.unnecessarySimpa false
set_option linter.unusedSectionVars false
open Go Go.RowKit

theorem made_at (w : World) (m : Nat) (e : Int) (he : e = m) (hm : m ≤ 140737488351232) : ∃ wm, (Instr.makeSlice 22 (.int .i64 0) (.int .i64 e)).run Tryz.prog w = .ok (.slice (some ⟨w.heap.size, 0, none⟩) 0 m) wm ∧ NewB w wm (.slice (some ⟨w.heap.size, 0, none⟩) 0 m) [] := by
  subst he
  obtain ⟨i0, hi, hz0, hz1, hz2⟩ := info_parts Tryz.infoByte
  have h := run_make (P := Tryz.prog) w 22 5 i0 _ Tryz.underlying22 hi hz0 .i64 .i64 0 (m : Int) (by omega) (by omega) (by rw [hz2]; omega) (by omega)
  have e1 : ((m : Int)).toNat = m := by omega
  rw [e1, hz1, show (0 : Int).toNat = 0 from rfl] at h
  refine ⟨_, h, ⟨.inr ⟨w.heap.size, m, _, rfl, heap_alloc_new w _, Nat.zero_le _, ?_, by unfold maxLen; omega, by simp⟩, fun k hk => ?_, (Upd.refl _ _).alloc _⟩⟩
  · simp [size_madeCells]
  · injection hk with hk
    have hk' : w.heap.size = k := hk
    omega

theorem BAt.cell {w : World} {ao : Option Addr} {n cap : Nat} {bs : List UInt8} (h : BAt w (.slice ao n cap) bs) {j : Nat} (hj : j < bs.length) : ∃ g o, ao = some ⟨g, o, none⟩ ∧ g < w.heap.size ∧ w.cell? ⟨g, o + j, none⟩ = some (.int .u8 ((bs[j].toNat : Nat) : Int)) := by
  obtain ⟨ao', cp, e, -, -, -, h4⟩ := h
  injection e with e1 _ _
  subst e1
  exact h4 j hj

/-- Literal bytes are appended; the new slice in letters. -/
theorem NewB.put {w w1 : World} {v : Value} {bs : List UInt8} (h : NewB w w1 v bs) (ms : List UInt8) (vals : Array Value) (k : Nat) (hv : (ms.map byteV).toArray = vals) (hk : ms.length = k) (hl : bs.length + k ≤ 140737488355328) :
    ∃ ao L cap w2, (Builtin.append_ #[22, 22] 22 #[v, .slice (some ⟨w1.heap.size, 0, none⟩) k k]).run Tryz.prog (w1.alloc (.cells vals 5)) = .ok (.slice ao L cap) w2 ∧ NewB w w2 (.slice ao L cap) (bs ++ ms) := by
  subst hv hk
  obtain ⟨v', w2, hr, hn⟩ := h.push ms hl 22
  obtain ⟨ao, cap, rfl, -, -⟩ := hn.shape
  exact ⟨ao, _, cap, w2, hr, hn⟩

set_option maxRecDepth 100000 in
set_option maxHeartbeats 3200000 in
theorem ordered_any {w : World} {v : Value} {b : List UInt8} (hv : BAt w v b) (hl : b.length ≤ 100000000) :
    Calls Tryz.prog 226 #[v] w fun e w' => ∃ v', e = .returned v' ∧ NewB w w' v' (ordB b) := by
  have HV := hid hv
  obtain ⟨ao0, cap0, rfl, h1, h2, -, -⟩ := hv
  obtain ⟨n, hn⟩ : ∃ n, n = b.length := ⟨_, rfl⟩
  obtain ⟨wm, hmk, hnm⟩ := made_at w (n + 2) ((n : Int) + 2) (by omega) (by omega)
  rw [← hn] at h1 hl ⊢
  have HNM := hid hnm; have HN := hid hn
  clear hnm hn
  go_enter Tryz.func226, Tryz.ntmps226
  go_wp2
  go_loopw [12, 3] (fun iv ov wr => ∃ k : Nat, k ≤ n ∧ iv = .int .i64 k ∧ ∃ ao L cap, ov = .slice ao L cap ∧ NewB w wr (.slice ao L cap) (ordT (b.take k))) (fun iv _ _ => n - (intOf iv).toNat)
  case atStart => exact ⟨0, Nat.zero_le _, rfl, _, _, _, rfl, HNM.out⟩
  case round =>
    obtain ⟨k, hk, rfl, ao, L, cap, rfl, hnew⟩ := hrel
    have hol := ordT_len (b.take k)
    have htl : (b.take k).length ≤ k := by simp; omega
    by_cases hlt : k < n
    · have hkb : k < b.length := by rw [← HN.out]; exact hlt
      obtain ⟨g, o, rfl, hg, d0⟩ := (HV.out.keep hnew.upd).cell hkb
      have hstep := ordT_step b k hkb
      generalize b[k] = c at d0 hstep
      have hc8 := c.toNat_lt
      obtain ⟨ao1, L1, cap1, w1, hr1, hn1⟩ := hnew.put [c] #[.int .u8 (c.toNat : Int)] 1 rfl rfl (by omega)
      by_cases hz : c.toNat = 0
      · rw [if_pos hz] at hstep
        have hzi : ((c.toNat : Int) == 0) = true := by simp; omega
        obtain ⟨ao2, L2, cap2, w2, hr2, hn2⟩ := hn1.put [255] #[.int .u8 255] 1 rfl rfl (by simp; omega)
        have HR1 := hid hr1; have HR2 := hid hr2; have HN2 := hid hn2; have HST := hid hstep
        clear hr1 hr2 hn1 hn2 hnew hstep hol htl hmk hz
        go_upto_region 6 with (at_builtin; refine wpList_append_run rfl _ _ _ rfl rfl rfl HR1.out ?_)
        go_wp2_with (at_builtin; refine wpList_append_run rfl _ _ _ rfl rfl rfl HR2.out ?_)
        go_roundw
        case rel =>
          refine ⟨k + 1, by omega, by go_num, ao2, L2, cap2, rfl, ?_⟩
          have h := HN2.out
          rw [HST.out]
          rw [List.append_assoc] at h
          exact h
        case measure => simp [intOf]; omega
      · rw [if_neg hz] at hstep
        have hzi : ((c.toNat : Int) == 0) = false := by simp; omega
        have HR1 := hid hr1; have HN1 := hid hn1; have HST := hid hstep
        clear hr1 hn1 hnew hstep hol htl hmk hz
        go_wp2_with (at_builtin; refine wpList_append_run rfl _ _ _ rfl rfl rfl HR1.out ?_)
        go_roundw
        case rel =>
          refine ⟨k + 1, by omega, by go_num, ao1, L1, cap1, rfl, ?_⟩
          rw [HST.out]
          exact HN1.out
        case measure => simp [intOf]; omega
    · obtain rfl : k = n := by omega
      obtain ⟨ao1, L1, cap1, w1, hr1, hn1⟩ := hnew.put [0, 1] #[.int .u8 0, .int .u8 1] 2 rfl rfl (by omega)
      have hfin : NewB w w1 (.slice ao1 L1 cap1) (ordB b) := by
        unfold ordB
        rw [show b = b.take k from by rw [HN.out, List.take_length]]
        exact hn1
      have HR1 := hid hr1; have HF := hid hfin
      clear hr1 hn1 hnew hfin hol htl hmk
      go_wp2_with (at_builtin; refine wpList_append_run rfl _ _ _ rfl rfl rfl HR1.out ?_)
      go_ret
      exact ⟨_, rfl, HF.out⟩

end Go.Proofs.YtgaidmohdhaonaaGreatDoor

namespace Go.Proofs.YtgaidmohdhaonaaGreatDoor
set_option linter.unusedVariables false
set_option linter.unusedSimpArgs false
set_option linter.unnecessarySimpa false
set_option linter.unusedSectionVars false
open Go Go.RowKit

set_option maxRecDepth 100000 in
set_option maxHeartbeats 3200000 in
theorem readOrdered_any {w : World} {v : Value} {b : List UInt8} (hv : BAt w v b) {a : Nat} (ha : a ≤ b.length) (hl : b.length ≤ 140737488351232) :
    Calls Tryz.prog 223 #[v, .int .i64 a] w fun e w' => ∃ v', e = .returned (.tuple #[v', .int .i64 ((readO b a).2.1 : Nat), .int .i64 (readO b a).2.2]) ∧ NewB w w' v' (readO b a).1 := by
  have HV := hid hv
  have HOUT := hid (outside_in hv ha)
  obtain ⟨R, hR⟩ : ∃ R, R = readO b a := ⟨_, rfl⟩
  rw [← hR]
  have HR := hid hR
  clear hR
  obtain ⟨ao0, cap0, rfl, h1, h2, -, -⟩ := hv
  go_enter Tryz.func223, Tryz.ntmps223
  go_wp2_with fail
  refine HOUT.out.mono ?_
  rintro e w' ⟨rfl, hww⟩
  obtain rfl := hww.symm
  go_wp2
  go_loopw [1, 7] (fun av ov wr => ∃ p : Nat, p ≤ b.length ∧ av = .int .i64 p ∧ ∃ acc ao L cap, ov = .slice ao L cap ∧ NewB w wr (.slice ao L cap) acc ∧ acc.length ≤ p ∧ R = ro (b.drop p) p acc) (fun av _ _ => b.length - (intOf av).toNat)
  case atStart => exact ⟨a, ha, rfl, [], _, _, _, rfl, NewB.nil _, Nat.zero_le _, HR.out⟩
  case round =>
    obtain ⟨p, hp, rfl, acc, ao, L, cap, rfl, hnew, hal, he⟩ := hrel
    by_cases hend : p < b.length
    · obtain ⟨g, o, rfl, hg, d0⟩ := (HV.out.keep hnew.upd).cell hend
      have hdrop : b.drop p = b[p]'hend :: b.drop (p + 1) := List.drop_eq_getElem_cons hend
      rw [hdrop] at he
      generalize b[p]'hend = c at d0 he
      have hc8 := c.toNat_lt
      clear hdrop
      by_cases hz : c.toNat = 0
      · have hzi : ((c.toNat : Int) == 0) = true := by simp; omega
        by_cases hend2 : p + 1 < b.length
        · obtain ⟨g', o', eg, -, d1⟩ := (HV.out.keep hnew.upd).cell hend2
          injection eg with eg
          injection eg with eg1 eg2
          subst eg1 eg2
          have hdrop : b.drop (p + 1) = b[p + 1]'hend2 :: b.drop (p + 1 + 1) := List.drop_eq_getElem_cons hend2
          rw [hdrop] at he
          generalize b[p + 1]'hend2 = d at d1 he
          have hd8 := d.toNat_lt
          rw [ro, if_neg (by simpa using hz)] at he
          have hne : ((p : Int) + 1 == (b.length : Int)) = false := by simp; omega
          clear hdrop
          by_cases h1d : d.toNat = 1
          · rw [if_pos h1d] at he
            have h1i : ((d.toNat : Int) == 1) = true := by simp; omega
            have HF := hid he; have HNEW := hid hnew
            clear he hnew hz h1d
            go_wp2
            go_ret3
            exact ⟨.slice ao L cap, by rw [HF.out]; rfl, by rw [HF.out]; exact HNEW.out⟩
          · rw [if_neg h1d] at he
            have h1i : ((d.toNat : Int) == 1) = false := by simp; omega
            by_cases h255 : d.toNat = 255
            · rw [if_pos h255] at he
              have h255i : ((d.toNat : Int) == 255) = true := by simp; omega
              obtain ⟨ao1, L1, cap1, w1, hr1, hn1⟩ := hnew.put [c] #[.int .u8 0] 1 (by simp [byteV, hz]) rfl (by omega)
              have HE := hid he; have HR1 := hid hr1; have HN1 := hid hn1
              clear he hnew hz h1d h255 hr1 hn1
              go_wp2_with (at_builtin; refine wpList_append_run rfl _ _ _ rfl rfl rfl HR1.out ?_)
              go_roundw
              case rel => exact ⟨p + 2, by omega, by go_num, acc ++ [c], ao1, L1, cap1, rfl, HN1.out, by simp; omega, HE.out⟩
              case measure => simp [intOf]; omega
            · rw [if_neg h255] at he
              have h255i : ((d.toNat : Int) == 255) = false := by simp; omega
              have HF := hid he; have HU := hid hnew.upd
              clear he hnew hz h1d h255
              go_wp2
              go_ret3
              exact ⟨.slice none 0 0, by rw [HF.out]; rfl, by rw [HF.out]; exact (NewB.nil _).keep HU.out⟩
        · have hdn : b.drop (p + 1) = [] := List.drop_eq_nil_of_le (by omega)
          rw [hdn] at he
          have hnei : ((p : Int) + 1 == (b.length : Int)) = true := by simp; omega
          have HF := hid he; have HU := hid hnew.upd
          clear he hnew hz hdn
          go_wp2
          go_ret3
          exact ⟨.slice none 0 0, by rw [HF.out]; rfl, by rw [HF.out]; exact (NewB.nil _).keep HU.out⟩
      · have hzi : ((c.toNat : Int) == 0) = false := by simp; omega
        have hnx : R = ro (b.drop (p + 1)) (p + 1) (acc ++ [c]) := by
          rw [he]
          cases hq : b.drop (p + 1) with
          | nil => rfl
          | cons d ds => rw [ro, if_pos hz]
        obtain ⟨ao1, L1, cap1, w1, hr1, hn1⟩ := hnew.put [c] #[.int .u8 (c.toNat : Int)] 1 rfl rfl (by omega)
        have HE := hid hnx; have HR1 := hid hr1; have HN1 := hid hn1
        clear he hnx hnew hz hr1 hn1
        go_wp2_with (at_builtin; refine wpList_append_run rfl _ _ _ rfl rfl rfl HR1.out ?_)
        go_roundw
        case rel => exact ⟨p + 1, by omega, by go_num, acc ++ [c], ao1, L1, cap1, rfl, HN1.out, by simp; omega, HE.out⟩
        case measure => simp [intOf]; omega
    · have hdn : b.drop p = [] := List.drop_eq_nil_of_le (by omega)
      rw [hdn] at he
      have hge : ¬ (p : Int) < (b.length : Int) := by omega
      have HF := hid he; have HU := hid hnew.upd
      clear he hnew hdn
      go_wp2
      go_ret3
      exact ⟨.slice none 0 0, by rw [HF.out]; rfl, by rw [HF.out]; exact (NewB.nil _).keep HU.out⟩

end Go.Proofs.YtgaidmohdhaonaaGreatDoor

namespace Go.Proofs.YtgaidmohdhaonaaGreatDoor
set_option linter.unusedVariables false
set_option linter.unusedSimpArgs false
set_option linter.unnecessarySimpa false
set_option linter.unusedSectionVars false
open Go Go.RowKit

theorem made_eight (w : World) : ∃ wm, (Instr.makeSlice 22 (.int .i64 8) (.int .i64 8)).run Tryz.prog w = .ok (.slice (some ⟨w.heap.size, 0, none⟩) 8 8) wm ∧ Upd (fun _ => False) w wm ∧ wm.heap[w.heap.size]? = some (.cells ((List.replicate 8 (0 : UInt8)).map byteV).toArray 5 (0, 0)) := by
  obtain ⟨i0, hi, hz0, hz1, hz2⟩ := info_parts Tryz.infoByte
  have h := run_make (P := Tryz.prog) w 22 5 i0 _ Tryz.underlying22 hi hz0 .i64 .i64 8 8 (by omega) (by omega) (by rw [hz2]; omega) (by omega)
  rw [hz1] at h
  rw [show madeCells (Value.int IntKind.u8 0).cells (Int.toNat 8 * 1) = ((List.replicate 8 (0 : UInt8)).map byteV).toArray from by kernel_rfl] at h
  exact ⟨_, h, (Upd.refl _ _).alloc _, heap_alloc_new w _⟩

/-- The eight bytes as far as they are there: the last 8 - m of them. -/
def eightAt (n m : Nat) : List UInt8 := List.replicate m 0 ++ (eightB n).drop m

theorem eightAt_step (n i : Nat) (hi : i < 8) : (eightAt n (i + 1)).set i (UInt8.ofNat (n / 256 ^ (7 - i))) = eightAt n i := by
  match i, hi with
  | 0, _ => rfl
  | 1, _ => rfl
  | 2, _ => rfl
  | 3, _ => rfl
  | 4, _ => rfl
  | 5, _ => rfl
  | 6, _ => rfl
  | 7, _ => simp [eightAt, eightB, List.replicate]

theorem eightAt_len (n m : Nat) (h : m ≤ 8) : (eightAt n m).length = 8 := by unfold eightAt; rw [List.length_append, List.length_drop, List.length_replicate, eightB_len]; omega

theorem cells_bytes {w : World} {q : Nat} {l : List UInt8} (h : w.heap[q]? = some (.cells (l.map byteV).toArray 5 (0, 0))) {j : Nat} (hj : j < l.length) : w.cell? ⟨q, j, none⟩ = some (.int .u8 ((l[j].toNat : Nat) : Int)) := by
  rw [cell_of_row w q j _ _ _ h]
  simp [hj, byteV]

theorem set_bytes (l : List UInt8) (i : Nat) (c : UInt8) : ((l.map byteV).toArray).setIfInBounds i (.int .u8 (c.toNat : Int)) = ((l.set i c).map byteV).toArray := by
  rw [List.map_set]
  simp [byteV]

set_option maxRecDepth 100000 in
set_option maxHeartbeats 3200000 in
theorem rising_any {w : World} {n : Nat} (hn : n < 9223372036854775808) :
    Calls Tryz.prog 235 #[.int .i64 n] w fun e w' => ∃ v', e = .returned (.tuple #[v', .int .i64 0]) ∧ NewB w w' v' (eightB n) := by
  obtain ⟨wm, hmk, hum, hbm⟩ := made_eight w
  have HUM := hid hum; have HBM := hid hbm
  have hsz := hum.size
  have hq : w.heap.size < wm.heap.size := lt_of_heap hbm
  have h0 : ¬ (n : Int) < 0 := by omega
  clear hum hbm
  go_enter Tryz.func235, Tryz.ntmps235
  go_wp2
  go_loopw [0, 5] (fun nv iv wr => ∃ m : Nat, m ≤ 8 ∧ iv = .int .i64 ((m : Int) - 1) ∧ ∃ x : Nat, nv = .int .i64 x ∧ x < 9223372036854775808 ∧ x = n / 256 ^ (8 - m) ∧ Upd (fun _ => False) w wr ∧ wr.heap[w.heap.size]? = some (.cells ((eightAt n m).map byteV).toArray 5 (0, 0))) (fun _ iv _ => (intOf iv + 1).toNat)
  case atStart => exact ⟨8, by omega, rfl, n, rfl, hn, by simp, HUM.out, HBM.out⟩
  case round =>
    obtain ⟨m, hm, rfl, x, rfl, hx, hxe, hu, hb⟩ := hrel
    have hsr := hu.size
    have hqr : w.heap.size < wr.heap.size := lt_of_heap hb
    rcases m with _ | i
    · have e0 : (((0 : Nat) : Int) - 1) = -1 := by omega
      have hfin : NewB w wr (.slice (some ⟨w.heap.size, 0, none⟩) 8 8) (eightB n) := ⟨.inr ⟨w.heap.size, 8, _, rfl, hb, by simp [eightB], by simp [eightAt_len], by unfold maxLen; omega, by simp [eightAt]; rfl⟩, fun k hk => (by injection hk with hk; have hk' : w.heap.size = k := hk; omega), hu⟩
      have HF := hid hfin
      clear hfin hu hb hxe hmk
      rw [e0]
      go_wp2
      go_ret2
      exact ⟨_, rfl, HF.out⟩
    · have e1 : (((i + 1 : Nat) : Int) - 1) = (i : Int) := by omega
      rw [e1]
      have d0 := cells_bytes hb (j := i) (by rw [eightAt_len _ _ hm]; omega)
      have hge : (0 : Int) ≤ (i : Int) := by omega
      have fz := frozen_of_row wr w.heap.size i _ _ hb
      have hi8 : i < 8 := by omega
      have hb2 := heap_setCell_at wr w.heap.size i _ _ (.int .u8 ((UInt8.ofNat x).toNat : Int)) hb
      rw [set_bytes, hxe, show 8 - (i + 1) = 7 - i from by omega, eightAt_step n i hi8, show 7 - i = 8 - (i + 1) from by omega] at hb2
      have hw8 : (((UInt8.ofNat x).toNat : Nat) : Int) = (x : Int) % 256 := by rw [UInt8.toNat_ofNat']; omega
      rw [← hxe, hw8] at hb2
      have hu2 : Upd (fun _ => False) w (wr.setCell ⟨w.heap.size, i, none⟩ (.int .u8 ((x : Int) % 256))) := hu.setCell (fun e => absurd e (by show ¬ w.heap.size < w.heap.size; omega)) _
      have hxn : x / 256 = n / 256 ^ (8 - i) := by
        rw [hxe, Nat.div_div_eq_div_mul]
        congr 1
        rw [show 8 - i = (8 - (i + 1)) + 1 from by omega, Nat.pow_succ]
      have HB2 := hid hb2; have HU2 := hid hu2; have HXN := hid hxn
      clear hb hb2 hu hu2 hxe hxn hw8 hmk
      generalize ((eightAt n (i + 1))[i]'(by rw [eightAt_len _ _ hm]; omega)).toNat = c0 at d0
      go_wp2
      go_roundw
      case rel => exact ⟨i, by omega, by go_num, x / 256, by go_num, by omega, HXN.out, HU2.out, HB2.out⟩
      case measure => simp [intOf]

set_option maxRecDepth 100000 in
theorem falling_any {w : World} {n : Nat} (hn : n ≤ 9223372036854775807) :
    Calls Tryz.prog 228 #[.int .i64 n] w fun e w' => ∃ v', e = .returned (.tuple #[v', .int .i64 0]) ∧ NewB w w' v' (eightB (9223372036854775807 - n)) := by
  have HR := hid (rising_any (w := w) (n := 9223372036854775807 - n) (by omega))
  have h0 : ¬ (n : Int) < 0 := by omega
  have e1 : (((9223372036854775807 - n : Nat)) : Int) = 9223372036854775807 - (n : Int) := by omega
  rw [e1] at HR
  clear e1
  go_enter Tryz.func228, Tryz.ntmps228
  go_wp2_with fail
  refine HR.out.mono ?_
  rintro e w1 ⟨v1, rfl, hn1⟩
  have HN1 := hid hn1
  clear hn1
  go_wp2
  go_ret2
  exact ⟨v1, rfl, HN1.out⟩

end Go.Proofs.YtgaidmohdhaonaaGreatDoor

namespace Go.Proofs.YtgaidmohdhaonaaGreatDoor
set_option linter.unusedVariables false
set_option linter.unusedSimpArgs false
set_option linter.unnecessarySimpa false
set_option linter.unusedSectionVars false
open Go Go.RowKit

/-- A number of eight bytes at a place that is one. -/
def readR (b : List UInt8) (a : Nat) : Nat × Nat × Int :=
  if b.length - a < 8 then (0, 0, 10) else
  if 127 < (b.getD a 0).toNat then (0, 0, 13) else
  (numB ((b.drop a).take 8), a + 8, 0)

theorem or_word (i : Nat) (x y : Int) (h0 : 0 ≤ x) (h1 : x % 2 ^ i = 0) (h2 : x < 9223372036854775808) (h3 : 0 ≤ y) (h4 : y < 2 ^ i) (hi : y < 9223372036854775808) : bits .or .i64 x y = x + y :=
  bits_join .i64 63 (by decide) (fun n h1 h2 => by rw [IntKind.wrap_i64]; omega) i x y h0 h1 (by omega) h3 h4 (by omega)

theorem numB_head {l : List UInt8} {k : Nat} (hl : l.length = 8) (h : (l.getD 0 0).toNat ≤ 127) (hk : k ≤ 8) : numB (l.take k) < 9223372036854775808 := by
  match l, hl with
  | c :: cs, hl =>
    rcases k with _ | k
    · simp [numB]
    · have h' : c.toNat ≤ 127 := h
      rw [List.take_succ_cons]
      have h2 : numB (c :: cs.take k) = (cs.take k).foldl (fun n c => 256 * n + c.toNat) c.toNat := by simp [numB]
      rw [h2]
      refine Nat.lt_of_lt_of_le (numB_lt' (cs.take k) c.toNat) ?_
      have h3 : (cs.take k).length ≤ 7 := by simp at hl ⊢; omega
      have h4 : 256 ^ (cs.take k).length ≤ 256 ^ 7 := Nat.pow_le_pow_right (by omega) h3
      calc (c.toNat + 1) * 256 ^ (cs.take k).length ≤ 128 * 256 ^ 7 := Nat.mul_le_mul (by omega) h4
        _ = 9223372036854775808 := by decide

theorem numB_step {l : List UInt8} {k : Nat} (hk : k < l.length) : numB (l.take (k + 1)) = 256 * numB (l.take k) + l[k].toNat := by
  rw [List.take_succ_eq_append_getElem hk, numB_snoc]

set_option maxRecDepth 100000 in
set_option maxHeartbeats 3200000 in
theorem readRising_any {w : World} {v : Value} {b : List UInt8} (hv : BAt w v b) {a : Nat} (ha : a ≤ b.length) (hl : b.length ≤ 140737488351232) :
    Calls Tryz.prog 233 #[v, .int .i64 a] w fun e w' => e = .returned (.tuple #[.int .i64 ((readR b a).1 : Nat), .int .i64 ((readR b a).2.1 : Nat), .int .i64 (readR b a).2.2]) ∧ w' = w := by
  have HV := hid hv
  have HOUT := hid (outside_in hv ha)
  obtain ⟨R, hR⟩ : ∃ R, R = readR b a := ⟨_, rfl⟩
  rw [← hR]
  unfold readR at hR
  have HR := hid hR
  clear hR
  obtain ⟨ao, cap, rfl, h1, h2, -, -⟩ := hv
  go_enter Tryz.func233, Tryz.ntmps233
  go_wp2_with fail
  refine HOUT.out.mono ?_
  rintro e w' ⟨rfl, hww⟩
  obtain rfl := hww.symm
  by_cases h8 : b.length - a < 8
  · have hR := HR.out
    rw [if_pos h8] at hR
    have HF := hid hR
    have h8i : (b.length : Int) - (a : Int) < 8 := by omega
    clear hR h8
    go_wp2
    go_ret3
    exact ⟨by rw [HF.out]; rfl, rfl⟩
  · have hR := HR.out
    rw [if_neg h8] at hR
    have h8i : ¬ (b.length : Int) - (a : Int) < 8 := by omega
    have ha8 : a + 8 ≤ b.length := by omega
    obtain ⟨g, o, rfl, hg, d0⟩ := HV.out.cell (j := a) (by omega)
    have hgd : b.getD a 0 = b[a]'(by omega) := by rw [List.getD_eq_getElem?_getD, List.getElem?_eq_getElem (by omega)]; rfl
    rw [hgd] at hR
    have hgl : ((b.drop a).take 8).getD 0 0 = b[a]'(by omega) := by
      rw [List.getD_eq_getElem?_getD, List.getElem?_take, if_pos (by omega), List.getElem?_drop, List.getElem?_eq_getElem (by omega)]; rfl
    generalize b[a]'(by omega) = c at d0 hR hgl
    have hc8 := c.toNat_lt
    by_cases h127 : 127 < c.toNat
    · rw [if_pos h127] at hR
      have h1i : (127 : Int) < (c.toNat : Int) := by omega
      have HF := hid hR
      clear hR h8 h127 hgd hgl
      go_wp2
      go_ret3
      exact ⟨by rw [HF.out]; rfl, rfl⟩
    · rw [if_neg h127] at hR
      have h1i : ¬ (127 : Int) < (c.toNat : Int) := by omega
      obtain ⟨l, hl8⟩ : ∃ l, l = (b.drop a).take 8 := ⟨_, rfl⟩
      have hll : l.length = 8 := by rw [hl8]; simp; omega
      have hsub := HV.out.sub (lo := a) (n := 8) (by omega)
      rw [← hl8] at hR hgl hsub
      have HF := hid hR
      have hhd : (l.getD 0 0).toNat ≤ 127 := by rw [hgl]; omega
      have HSUB := hid hsub; have HHD := hid hhd; have HLL := hid hll
      have i0 : (0 : Int) ≤ (a : Int) := by omega
      have i1 : (a : Int) ≤ (a : Int) + 8 := by omega
      have i2 : (a : Int) + 8 ≤ (cap : Int) := by omega
      have i4 : ¬ cap = a := by omega
      have i6 : a + 8 - a = 8 := by omega
      have i8 : ¬ cap - a = 0 := by omega
      clear hR h8 h127 hgd hgl hl8 hsub hhd hll
      go_wp2
      go_loopw [7, 32] (fun nv iv wr => wr = w ∧ ∃ k : Nat, k ≤ 8 ∧ iv = .int .i64 k ∧ ∃ m : Nat, nv = .int .i64 m ∧ m = numB (l.take k)) (fun _ iv _ => 8 - (intOf iv).toNat)
      case atStart => exact ⟨rfl, 0, by omega, rfl, 0, rfl, rfl⟩
      case round =>
        obtain ⟨hww, k, hk, rfl, m, rfl, hm⟩ := hrel
        obtain rfl := hww.symm
        by_cases hk8 : k < 8
        · obtain ⟨g', o', eg, -, dk⟩ := HSUB.out.cell (j := k) (by rw [HLL.out]; exact hk8)
          injection eg with eg
          injection eg with eg1 eg2
          subst eg1 eg2
          have hst := numB_step (l := l) (k := k) (by rw [HLL.out]; exact hk8)
          have hlt := numB_head (k := k + 1) HLL.out HHD.out (by omega)
          rw [hst, ← hm] at hlt
          rw [← hm] at hst
          generalize l[k]'(by rw [HLL.out]; exact hk8) = d at dk hst hlt
          have hd8 := d.toNat_lt
          obtain ⟨m2, hm2⟩ : ∃ m2, m2 = 256 * m + d.toNat := ⟨_, rfl⟩
          have hor : bits .or .i64 ((m : Int) * 256) (d.toNat : Int) = (m2 : Int) := by
            rw [or_word 8 _ _ (by omega) (by omega) (by omega) (by omega) (by omega) (by omega)]; omega
          have hw : IntKind.i64.wrap ((m : Int) * 256) = (m : Int) * 256 := by rw [IntKind.wrap_i64]; omega
          rw [← hm2] at hst
          have HST := hid hst
          clear hst hm hm2
          go_wp2
          try rw [hor]
          go_roundw
          case rel => exact ⟨by trivial, k + 1, by omega, by go_num, m2, rfl, HST.out.symm⟩
          case measure => simp [intOf]; omega
        · obtain rfl : k = 8 := by omega
          have HM := hid (show m = numB l from by rw [hm, ← HLL.out, List.take_length])
          clear hm
          go_wp2
          go_ret3
          exact ⟨by rw [HF.out, ← HM.out]; rfl, rfl⟩

set_option maxRecDepth 100000 in
theorem readFalling_any {w : World} {v : Value} {b : List UInt8} (hv : BAt w v b) {a : Nat} (ha : a ≤ b.length) (hl : b.length ≤ 140737488351232) :
    Calls Tryz.prog 224 #[v, .int .i64 a] w fun e w' => e = .returned (.tuple #[.int .i64 ((readF b a).1 : Nat), .int .i64 ((readF b a).2.1 : Nat), .int .i64 (readF b a).2.2]) ∧ w' = w := by
  have HC := hid (readRising_any hv ha hl)
  obtain ⟨n, p, e, hn, hf, hx, he⟩ : ∃ (n p : Nat) (e : Int), readR b a = (n, p, e) ∧ readF b a = (if e = 0 then 9223372036854775807 - n else 0, p, e) ∧ (e = 0 → n ≤ 9223372036854775807) ∧ (e ≠ 0 → p = 0) := by
    unfold readR readF
    split
    · exact ⟨_, _, _, rfl, rfl, by decide, by simp⟩
    · split
      · exact ⟨_, _, _, rfl, rfl, by decide, by simp⟩
      · rename_i h1 h2
        refine ⟨_, _, _, rfl, rfl, fun _ => ?_, by simp⟩
        have hgl : ((b.drop a).take 8).getD 0 0 = b.getD a 0 := by
          rw [List.getD_eq_getElem?_getD, List.getD_eq_getElem?_getD, List.getElem?_take, if_pos (by omega), List.getElem?_drop]; rfl
        have := numB_head (l := (b.drop a).take 8) (k := 8) (by simp; omega) (by rw [hgl]; omega) (by omega)
        rw [List.take_take, Nat.min_self] at this
        omega
  rw [hn] at HC
  rw [hf]
  obtain ⟨n2, hn2⟩ : ∃ n2, n2 = if e = 0 then 9223372036854775807 - n else 0 := ⟨_, rfl⟩
  rw [← hn2]
  have HN2 := hid hn2
  clear hn2 hf hn
  go_enter Tryz.func224, Tryz.ntmps224
  go_wp2_with fail
  refine HC.out.mono ?_
  rintro e' w' ⟨rfl, hww⟩
  obtain rfl := hww.symm
  by_cases h0 : e = 0
  · have hx2 := hx h0
    have e1 : (n2 : Int) = 9223372036854775807 - (n : Int) := by have := HN2.out; rw [if_pos h0] at this; omega
    subst h0
    have HE1 := hid e1
    clear hx he e1
    go_wp2
    go_ret3
    exact ⟨by rw [HE1.out]; rfl, by trivial⟩
  · have h0i : (e == 0) = false := by simp; exact h0
    have HP := hid (he h0)
    have hz : n2 = 0 := by have := HN2.out; rwa [if_neg h0] at this
    have HZ := hid hz
    clear hx he hz h0
    go_wp2
    go_ret3
    exact ⟨by rw [HZ.out, HP.out]; rfl, by trivial⟩

end Go.Proofs.YtgaidmohdhaonaaGreatDoor
